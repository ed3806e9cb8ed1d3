/-
  GetUint of the document (cooperageref01): what it gives, whatever bytes it is handed.
  What is right, and a move's bytes, of the document (cooperageref17): what these functions give.
  move.Read: what it gives, whatever bytes it is handed.
  Read of the document (cooperageref17): what it gives, whatever bytes it is handed.
  Read of the document (cooperageref17), whole.
  The code of functions with slots by number, and what each is at a call. Printed by program (symc.py).
  Placements: where something stands, copies, what is right: what these functions give, whatever they are handed.
  Placements that came in or were made: what is right of them, searches through them, what hinders: what these functions give, whatever they are handed.
-/
import Derived.Test.YtkafejncffinmaaZE
set_option linter.unusedVariables false
set_option linter.unusedSimpArgs false
namespace Go.Proofs.Ytkafejncffinmaa
noncomputable section
open Go
set_option maxRecDepth 100000
def ga9 : C := (cOp (AC 34) (AL iGt .i64 (AB 9) (kV (.int .i64 1)))
(cG (AB 34) true (AC 36) (AD (AB 10))
(cG (AB 34) true (AC 37) (AL iEq .u8 (AB 36) (kV (.int .u8 0)))
(cOp (AC 38) (AS (AB 34) (AB 37) (kV (.bool false)))
(cG (AB 38) false (AC 40) (AD (AB 9))
(cG (AB 38) false (AC 41) (AL iEq .i64 (AB 40) (kV (.int .i64 10)))
(cG (AB 38) false (AC 42) (AD (AB 41))
(cG (AB 42) true (AC 43) (AD (AB 10))
(cG (AB 42) true (AC 44) (AL iGt .u8 (AB 43) (kV (.int .u8 1)))
(cG (AB 38) false (AC 45) (AS (AB 42) (AB 44) (kV (.bool false)))
(cOp (AC 46) (AS (AB 38) (kV (.bool true)) (AB 45))
(AP (AB 46)
(cOp (AC 4) (AD (kV (.int .u64 0)))
(cOp (AC 5) (AD (kV (.int .i64 0)))
(cOp (AC 6) (AD (kV (.int .i64 10)))
Ae)))
(cOp (AC 48) (AL iLt .u8 (AB 10) (kV (.int .u8 128)))
(AP (AB 48)
(cOp (AC 52) (BO .u64 (AB 10))
(cOp (AC 53) (CQ Int.mul .u64 (AB 8) (AB 52))
(cOp (AC 54) (A4 .u64 (Ai .u64) (AB 7) (AB 53))
(cOp (AC 57) (A4 .i64 (Ai .i64) (AB 1) (AB 9))
(cOp (AC 4) (AD (AB 54))
(cOp (AC 5) (AD (AB 57))
(cOp (AC 6) (AD (kV (.int .i64 0)))
Ae)))))))
(cOp (AC 61) (CQ Int.sub .u8 (AB 10) (kV (.int .u8 128)))
(cOp (AC 62) (BO .u64 (AB 61))
(cOp (AC 63) (CQ Int.mul .u64 (AB 8) (AB 62))
(cOp (AC 64) (A4 .u64 (Ai .u64) (AB 7) (AB 63))
(cOp (AC 7) (AD (AB 64))
(cOp (AC 66) (CQ Int.mul .u64 (AB 8) (kV (.int .u64 128)))
(cOp (AC 8) (AD (AB 66))
Ac)))))))))))))))))))))
def gT9 : C := (AP (AB 46)
(cOp (AC 4) (AD (kV (.int .u64 0)))
(cOp (AC 5) (AD (kV (.int .i64 0)))
(cOp (AC 6) (AD (kV (.int .i64 10)))
Ae)))
(cOp (AC 48) (AL iLt .u8 (AB 10) (kV (.int .u8 128)))
(AP (AB 48)
(cOp (AC 52) (BO .u64 (AB 10))
(cOp (AC 53) (CQ Int.mul .u64 (AB 8) (AB 52))
(cOp (AC 54) (A4 .u64 (Ai .u64) (AB 7) (AB 53))
(cOp (AC 57) (A4 .i64 (Ai .i64) (AB 1) (AB 9))
(cOp (AC 4) (AD (AB 54))
(cOp (AC 5) (AD (AB 57))
(cOp (AC 6) (AD (kV (.int .i64 0)))
Ae)))))))
(cOp (AC 61) (CQ Int.sub .u8 (AB 10) (kV (.int .u8 128)))
(cOp (AC 62) (BO .u64 (AB 61))
(cOp (AC 63) (CQ Int.mul .u64 (AB 8) (AB 62))
(cOp (AC 64) (A4 .u64 (Ai .u64) (AB 7) (AB 63))
(cOp (AC 7) (AD (AB 64))
(cOp (AC 66) (CQ Int.mul .u64 (AB 8) (kV (.int .u64 128)))
(cOp (AC 8) (AD (AB 66))
Ac))))))))))
def gG9 (K : C) : C := (cOp (AC 34) (AL iGt .i64 (AB 9) (kV (.int .i64 1)))
(cG (AB 34) true (AC 36) (AD (AB 10))
(cG (AB 34) true (AC 37) (AL iEq .u8 (AB 36) (kV (.int .u8 0)))
(cOp (AC 38) (AS (AB 34) (AB 37) (kV (.bool false)))
(cG (AB 38) false (AC 40) (AD (AB 9))
(cG (AB 38) false (AC 41) (AL iEq .i64 (AB 40) (kV (.int .i64 10)))
(cG (AB 38) false (AC 42) (AD (AB 41))
(cG (AB 42) true (AC 43) (AD (AB 10))
(cG (AB 42) true (AC 44) (AL iGt .u8 (AB 43) (kV (.int .u8 1)))
(cG (AB 38) false (AC 45) (AS (AB 42) (AB 44) (kV (.bool false)))
(cOp (AC 46) (AS (AB 38) (kV (.bool true)) (AB 45))
K)))))))))))
theorem Zp : ga9 = gG9 gT9 := rfl
def gB9 : C := (AX 1 (cOp (AC 21) (A4 .i64 (Ai .i64) (AB 1) (AB 9))
(cOp (AC 23) (Af (AB 0))
(cOp (AC 24) (AL iEq .i64 (AB 21) (AB 23))
(AP (AB 24)
(cOp (AC 4) (AD (kV (.int .u64 0)))
(cOp (AC 5) (AD (kV (.int .i64 0)))
(cOp (AC 6) (AD (kV (.int .i64 11)))
Ae)))
(cOp (AC 28) (A4 .i64 (Ai .i64) (AB 1) (AB 9))
(cOp (AC 29) (A9 1 (AB 0) (AB 28))
(cOp (AC 30) (AH (AB 29))
(cOp (AC 10) (AD (AB 30))
(cOp (AC 32) (A4 .i64 (Ai .i64) (AB 9) (kV (.int .i64 1)))
(cOp (AC 9) (AD (AB 32))
ga9)))))))))))
def gR9 : C := (AX 0 (Ao (AX 1 (cOp (AC 21) (A4 .i64 (Ai .i64) (AB 1) (AB 9))
(cOp (AC 23) (Af (AB 0))
(cOp (AC 24) (AL iEq .i64 (AB 21) (AB 23))
(AP (AB 24)
(cOp (AC 4) (AD (kV (.int .u64 0)))
(cOp (AC 5) (AD (kV (.int .i64 0)))
(cOp (AC 6) (AD (kV (.int .i64 11)))
Ae)))
(cOp (AC 28) (A4 .i64 (Ai .i64) (AB 1) (AB 9))
(cOp (AC 29) (A9 1 (AB 0) (AB 28))
(cOp (AC 30) (AH (AB 29))
(cOp (AC 10) (AD (AB 30))
(cOp (AC 32) (A4 .i64 (Ai .i64) (AB 9) (kV (.int .i64 1)))
(cOp (AC 9) (AD (AB 32))
(cOp (AC 34) (AL iGt .i64 (AB 9) (kV (.int .i64 1)))
(cG (AB 34) true (AC 36) (AD (AB 10))
(cG (AB 34) true (AC 37) (AL iEq .u8 (AB 36) (kV (.int .u8 0)))
(cOp (AC 38) (AS (AB 34) (AB 37) (kV (.bool false)))
(cG (AB 38) false (AC 40) (AD (AB 9))
(cG (AB 38) false (AC 41) (AL iEq .i64 (AB 40) (kV (.int .i64 10)))
(cG (AB 38) false (AC 42) (AD (AB 41))
(cG (AB 42) true (AC 43) (AD (AB 10))
(cG (AB 42) true (AC 44) (AL iGt .u8 (AB 43) (kV (.int .u8 1)))
(cG (AB 38) false (AC 45) (AS (AB 42) (AB 44) (kV (.bool false)))
(cOp (AC 46) (AS (AB 38) (kV (.bool true)) (AB 45))
(AP (AB 46)
(cOp (AC 4) (AD (kV (.int .u64 0)))
(cOp (AC 5) (AD (kV (.int .i64 0)))
(cOp (AC 6) (AD (kV (.int .i64 10)))
Ae)))
(cOp (AC 48) (AL iLt .u8 (AB 10) (kV (.int .u8 128)))
(AP (AB 48)
(cOp (AC 52) (BO .u64 (AB 10))
(cOp (AC 53) (CQ Int.mul .u64 (AB 8) (AB 52))
(cOp (AC 54) (A4 .u64 (Ai .u64) (AB 7) (AB 53))
(cOp (AC 57) (A4 .i64 (Ai .i64) (AB 1) (AB 9))
(cOp (AC 4) (AD (AB 54))
(cOp (AC 5) (AD (AB 57))
(cOp (AC 6) (AD (kV (.int .i64 0)))
Ae)))))))
(cOp (AC 61) (CQ Int.sub .u8 (AB 10) (kV (.int .u8 128)))
(cOp (AC 62) (BO .u64 (AB 61))
(cOp (AC 63) (CQ Int.mul .u64 (AB 8) (AB 62))
(cOp (AC 64) (A4 .u64 (Ai .u64) (AB 7) (AB 63))
(cOp (AC 7) (AD (AB 64))
(cOp (AC 66) (CQ Int.mul .u64 (AB 8) (kV (.int .u64 128)))
(cOp (AC 8) (AD (AB 66))
Ac))))))))))))))))))))))))))))))))))
theorem Zo : gR9 = AX 0 (Ao gB9) := rfl
def UF : C := (cOp (AC 4) (AD (kV (.int .u64 0)))
(cOp (AC 5) (AD (kV (.int .i64 0)))
(cOp (AC 6) (AD (kV (.int .i64 0)))
(cOp (AC 12) (AL iLt .i64 (AB 1) (kV (.int .i64 0)))
(cG (AB 12) false (AC 14) (AD (AB 1))
(cG (AB 12) false (AC 15) (AD (AB 0))
(cG (AB 12) false (AC 16) (Af (AB 15))
(cG (AB 12) false (AC 17) (AL iGt .i64 (AB 14) (AB 16))
(cOp (AC 18) (AS (AB 12) (kV (.bool true)) (AB 17))
(AP (AB 18)
(cOp (AC 4) (AD (kV (.int .u64 0)))
(cOp (AC 5) (AD (kV (.int .i64 0)))
(cOp (AC 6) (AD (kV (.int .i64 2)))
Ae)))
(cOp (AC 7) (AD (kV (.int .u64 0)))
(cOp (AC 8) (AD (kV (.int .u64 1)))
(cOp (AC 9) (AD (kV (.int .i64 0)))
gR9)))))))))))))
def d44 : C := UF
theorem Yl {n : Nat} {args : List Value} {h : Hp} (hl : Nat.ble (Bk args) 320 = true) : call AG (Nat.succ n) 44 args h = Bs [.t (AB 4), .t (AB 5), .t (AB 6)] (d44 (call AG n) (Ak e0 0 args) h) := by
  have hb : AG.get 44 = some b44 := by kernel_rfl
  rw [BM hb]
  have hd : b44 = ⟨[.t (AB 4), .t (AB 5), .t (AB 6)], d44⟩ := by kernel_rfl
  rw [hd, BC hl]
theorem Y6 : d44 = UF := rfl
theorem Zn {K : C} {F : CallF} {h : Hp} {e : Env} {c i : Nat} {b1 b2 b3 b4 : Bool} (s10 : AB 10 e = .int .u8 (c : Int)) (s9 : AB 9 e = .int .i64 (i : Int)) (i1 : iGt (i : Int) 1 = b1) (i2 : iEq (c : Int) 0 = b2) (i3 : iEq (i : Int) 10 = b3) (i4 : iGt (c : Int) 1 = b4) :
    ∃ e', gG9 K F e h = K F e' h ∧ AB 46 e' = .bool ((b1 && b2) || (b3 && b4)) ∧ AB 0 e' = AB 0 e ∧ AB 1 e' = AB 1 e ∧ AB 7 e' = AB 7 e ∧ AB 8 e' = AB 8 e ∧ AB 9 e' = AB 9 e ∧ AB 10 e' = AB 10 e := by
  unfold gG9
  cases b1 <;> cases b2 <;> cases b3 <;> cases b4 <;>
  · simp only [sT, Nat.reduceLT, Nat.reduceEqDiff, if_true, if_false, reduceIte, gD, AO, AN, s9, s10, i1, i2, i3, i4]
    exact ⟨_, rfl, by simp only [AE, Nat.reduceLT, Nat.reduceEqDiff, if_true, if_false, reduceIte]; rfl, by simp [AE], by simp [AE], by simp [AE], by simp [AE], by simp only [AE, Nat.reduceLT, Nat.reduceEqDiff, if_true, if_false, reduceIte, s9], by simp only [AE, Nat.reduceLT, Nat.reduceEqDiff, if_true, if_false, reduceIte, s10]⟩
theorem PZ {F : CallF} {h : Hp} {u : Value} {l : List Nat} {p : Nat} (V : h.Vals u (l.map bv)) (hb : ∀ x ∈ l, x < 256) (hp : p ≤ l.length) (hl : l.length ≤ 1000000) {e : Env} (s0 : AB 0 e = u) (s1 : AB 1 e = .int .i64 (p : Int)) (s7 : AB 7 e = .int .u64 0) (s8 : AB 8 e = .int .u64 1) (s9 : AB 9 e = .int .i64 0) :
    ∃ e' a b c, Ao gB9 F e h = .ret e' h ∧ AB 4 e' = .int .u64 a ∧ AB 5 e' = .int .i64 b ∧ AB 6 e' = .int .i64 c ∧ O9 l p a b c := by
  have Vl : Ca u h = .ok (.int .i64 (l.length : Int)) h := by have := V.len; rwa [List.length_map] at this
  refine Bo (I := fun i e' h' => h' = h ∧ ∃ acc : Nat, AB 0 e' = u ∧ AB 1 e' = .int .i64 (p : Int) ∧ AB 7 e' = .int .u64 (acc : Int) ∧ AB 8 e' = .int .u64 ((2 ^ (7 * i) : Nat) : Int) ∧ AB 9 e' = .int .i64 (i : Int) ∧ acc < 2 ^ (7 * i) ∧ i ≤ 9 ∧ p + i ≤ l.length ∧ Cb 0 0 (l.drop p) = Cb i acc (l.drop (p + i)))
    (Q := fun x => ∃ e' a b c, x = .ret e' h ∧ AB 4 e' = .int .u64 a ∧ AB 5 e' = .int .i64 b ∧ AB 6 e' = .int .i64 c ∧ O9 l p a b c) 20 (by omega) (fun i e' h' ⟨hh, acc, t0, t1, t7, t8, t9, hacc, hi9, hpi, hu⟩ => ?_)
    ⟨rfl, 0, s0, s1, s7, s8, s9, by decide, by omega, hp, rfl⟩
  subst hh
  have a1 : Ci .i64 (.int .i64 (p : Int)) (.int .i64 (i : Int)) h' = .ok (.int .i64 ((p + i : Nat) : Int)) h' := by
    have : (p : Int) + (i : Int) = ((p + i : Nat) : Int) := by omega
    rw [Bc, this, BJ (by omega)]
  by_cases hlt : p + i < l.length
  · have hc : l.getD (p + i) 0 < 256 := hb _ (by rw [List.getD_eq_getElem?_getD, List.getElem?_eq_getElem hlt]; exact List.getElem_mem hlt)
    have hd : l.drop (p + i) = l.getD (p + i) 0 :: l.drop (p + i + 1) := by
      rw [List.drop_eq_getElem_cons hlt, List.getD_eq_getElem?_getD, List.getElem?_eq_getElem hlt]; rfl
    have hel : (l.map bv).getD (p + i) noRes = .int .u8 ((l.getD (p + i) 0 : Nat) : Int) := by
      rw [List.getD_eq_getElem?_getD, List.getElem?_map, List.getD_eq_getElem?_getD, List.getElem?_eq_getElem hlt]; rfl
    obtain ⟨a, g1, g2⟩ := V.at (i := p + i) (by rw [List.length_map]; exact hlt)
    rw [hel] at g2
    rw [hd] at hu
    generalize l.getD (p + i) 0 = c at hc g2 hu
    have c1 : iEq ((p + i : Nat) : Int) (l.length : Int) = false := by rw [B6]; simp; omega
    have a3 : Ci .i64 (.int .i64 (i : Int)) (.int .i64 1) h' = .ok (.int .i64 ((i + 1 : Nat) : Int)) h' := by
      have : (i : Int) + 1 = ((i + 1 : Nat) : Int) := by omega
      rw [Bc, this, BJ (by omega)]
    have a4 : Ci .i64 (.int .i64 (p : Int)) (.int .i64 ((i + 1 : Nat) : Int)) h' = .ok (.int .i64 ((p + (i + 1) : Nat) : Int)) h' := by
      have : (p : Int) + ((i + 1 : Nat) : Int) = ((p + (i + 1) : Nat) : Int) := by omega
      rw [Bc, this, BJ (by omega)]
    have pre : ∃ e1, gB9 F e' h' = DT 1 (ga9 F e1 h') ∧ AB 0 e1 = u ∧ AB 1 e1 = .int .i64 (p : Int) ∧ AB 7 e1 = .int .u64 (acc : Int) ∧ AB 8 e1 = .int .u64 ((2 ^ (7 * i) : Nat) : Int) ∧ AB 9 e1 = .int .i64 ((i + 1 : Nat) : Int) ∧ AB 10 e1 = .int .u8 (c : Int) := by
      unfold gB9
      simp only [sT, Nat.reduceLT, Nat.reduceEqDiff, if_true, if_false, reduceIte, Bb, t1, t9, a1, Al, t0, Vl, AO, AN, c1, BV, g1, Ab, g2, a3]
      exact ⟨_, rfl, by simp only [AE, Nat.reduceLT, Nat.reduceEqDiff, if_true, if_false, reduceIte]; exact t0, by simp only [AE, Nat.reduceLT, Nat.reduceEqDiff, if_true, if_false, reduceIte]; exact t1, by simp only [AE, Nat.reduceLT, Nat.reduceEqDiff, if_true, if_false, reduceIte]; exact t7, by simp only [AE, Nat.reduceLT, Nat.reduceEqDiff, if_true, if_false, reduceIte]; exact t8, by simp [AE], by simp [AE]⟩
    obtain ⟨e1, k0, k1, k2, k3, k4, k5, k6⟩ := pre
    obtain ⟨e2, q1, p46, p0, pp1, p7, p8, p9, p10⟩ := Zn (K := gT9) (F := F) (h := h') (e := e1) (c := c) (i := i + 1) (b1 := decide (0 < i)) (b2 := decide (c = 0)) (b3 := decide (8 < i)) (b4 := decide (1 < c))
        k6 k5 (by rw [BS, decide_eq_decide]; omega) (by rw [B6, Bool.eq_iff_iff, beq_iff_eq, decide_eq_true_eq]; omega) (by rw [B6, Bool.eq_iff_iff, beq_iff_eq, decide_eq_true_eq]; omega) (by rw [BS, decide_eq_decide]; omega)
    rw [k1] at p0
    rw [k2] at pp1
    rw [k3] at p7
    rw [k4] at p8
    rw [k5] at p9
    rw [k6] at p10
    rw [Cb] at hu
    rw [k0, Zp, q1]
    by_cases hbad : (0 < i ∧ c = 0) ∨ (8 < i ∧ 1 < c)
    · right
      have hB : ((decide (0 < i) && decide (c = 0)) || (decide (8 < i) && decide (1 < c))) = true := by simpa using hbad
      rw [hB] at p46
      rw [if_pos hbad] at hu
      have hrun : ∃ e3, gT9 F e2 h' = .ret e3 h' ∧ AB 4 e3 = .int .u64 0 ∧ AB 5 e3 = .int .i64 0 ∧ AB 6 e3 = .int .i64 10 := by
        unfold gT9
        simp only [sT, Nat.reduceLT, Nat.reduceEqDiff, if_true, if_false, reduceIte, p46]
        exact ⟨_, rfl, by simp [AE], by simp [AE], by simp [AE]⟩
      obtain ⟨e3, r1, r4, r5, r6⟩ := hrun
      rw [r1, BL]
      exact ⟨rfl, e3, 0, 0, 10, rfl, r4, r5, r6, .inr ⟨hu, by omega⟩⟩
    · have hB : ((decide (0 < i) && decide (c = 0)) || (decide (8 < i) && decide (1 < c))) = false := by
        rw [← Bool.not_eq_true]; simpa using hbad
      rw [hB] at p46
      rw [if_neg hbad] at hu
      have hpw := G9 i
      have hle : acc + c % 128 * 2 ^ (7 * i) < 2 ^ (7 * (i + 1)) := by
        have h1 : c % 128 ≤ 127 := by omega
        have h2 := Nat.mul_le_mul_right (2 ^ (7 * i)) h1
        omega
      have htop : c % 128 * 2 ^ (7 * i) ≤ 9223372036854775808 ∧ acc < 9223372036854775808 := by
        have h3 := Fv hi9
        refine ⟨?_, by omega⟩
        rcases Nat.lt_or_ge i 9 with h4 | h4
        · have h5 : 2 ^ (7 * (i + 1)) ≤ 9223372036854775808 := Fv (by omega)
          omega
        · have h5 : c % 128 ≤ 1 := by omega
          have h6 := Nat.mul_le_mul_right (2 ^ (7 * i)) h5
          omega
      have m5 : Ci .u64 (.int .u64 (acc : Int)) (.int .u64 ((c % 128 * 2 ^ (7 * i) : Nat) : Int)) h' = .ok (.int .u64 ((acc + c % 128 * 2 ^ (7 * i) : Nat) : Int)) h' := by
        rw [Bc, ← Int.natCast_add, B5 (by omega)]
      have m4 : GR Int.mul .u64 (.int .u64 ((2 ^ (7 * i) : Nat) : Int)) (.int .u64 ((c % 128 : Nat) : Int)) h' = .ok (.int .u64 ((c % 128 * 2 ^ (7 * i) : Nat) : Int)) h' := by
        have : Int.mul ((2 ^ (7 * i) : Nat) : Int) ((c % 128 : Nat) : Int) = ((c % 128 * 2 ^ (7 * i) : Nat) : Int) := by
          rw [Nat.mul_comm (c % 128)]; exact (Int.natCast_mul _ _).symm
        rw [Do, this, B5 (by omega)]
      by_cases hsm : c < 128
      · right
        rw [if_pos hsm] at hu
        have hcm : c % 128 = c := Nat.mod_eq_of_lt hsm
        have c2 : iLt (c : Int) 128 = true := by rw [As]; simp; omega
        have m2 : C2 .u64 (.int .u8 (c : Int)) h' = .ok (.int .u64 ((c % 128 : Nat) : Int)) h' := by rw [B0, B5 (by omega), hcm]
        have hrun : ∃ e3, gT9 F e2 h' = .ret e3 h' ∧ AB 4 e3 = .int .u64 ((acc + c % 128 * 2 ^ (7 * i) : Nat) : Int) ∧ AB 5 e3 = .int .i64 ((p + (i + 1) : Nat) : Int) ∧ AB 6 e3 = .int .i64 0 := by
          unfold gT9
          simp only [sT, Nat.reduceLT, Nat.reduceEqDiff, if_true, if_false, reduceIte, p46, p10, B4, m2, EJ, p8, m4, Bb, p7, m5, AO, AN, c2, p9, pp1, a4]
          exact ⟨_, rfl, by simp [AE], by simp [AE], by simp [AE]⟩
        obtain ⟨e3, r1, r4, r5, r6⟩ := hrun
        rw [r1, BL]
        refine ⟨rfl, e3, _, _, _, rfl, r4, r5, r6, .inl ⟨_, _, hu, ?_, rfl, rfl⟩⟩
        rw [Nat.mod_eq_of_lt hsm]
      · left
        rw [if_neg hsm] at hu
        have hi8 : i ≤ 8 := by omega
        have c2 : iLt (c : Int) 128 = false := by rw [As]; simp; omega
        have m1 : GR Int.sub .u8 (.int .u8 (c : Int)) (.int .u8 128) h' = .ok (.int .u8 ((c % 128 : Nat) : Int)) h' := by
          have : Int.sub (c : Int) 128 = ((c % 128 : Nat) : Int) := by show (c : Int) - 128 = _; omega
          rw [Do, this, GI, Nat.mod_eq_of_lt (show c % 128 < 256 by omega)]
        have m2 : C2 .u64 (.int .u8 ((c % 128 : Nat) : Int)) h' = .ok (.int .u64 ((c % 128 : Nat) : Int)) h' := by rw [B0, B5 (by omega)]
        have h5 : 2 ^ (7 * (i + 1)) ≤ 9223372036854775808 := Fv (by omega)
        have m6 : GR Int.mul .u64 (.int .u64 ((2 ^ (7 * i) : Nat) : Int)) (.int .u64 128) h' = .ok (.int .u64 ((2 ^ (7 * (i + 1)) : Nat) : Int)) h' := by
          have : Int.mul ((2 ^ (7 * i) : Nat) : Int) 128 = ((2 ^ (7 * (i + 1)) : Nat) : Int) := by
            rw [hpw, Nat.mul_comm 128]; exact (Int.natCast_mul _ 128).symm
          rw [Do, this, B5 (by omega)]
        have hrun : ∃ e3, gT9 F e2 h' = .norm e3 h' ∧ AB 0 e3 = u ∧ AB 1 e3 = .int .i64 (p : Int) ∧ AB 7 e3 = .int .u64 ((acc + c % 128 * 2 ^ (7 * i) : Nat) : Int) ∧ AB 8 e3 = .int .u64 ((2 ^ (7 * (i + 1)) : Nat) : Int) ∧ AB 9 e3 = .int .i64 ((i + 1 : Nat) : Int) := by
          unfold gT9
          simp only [sT, Nat.reduceLT, Nat.reduceEqDiff, if_true, if_false, reduceIte, p46, EJ, p10, m1, B4, m2, p8, m4, Bb, p7, m5, AO, AN, c2, m6]
          exact ⟨_, rfl, by simp only [AE, Nat.reduceLT, Nat.reduceEqDiff, if_true, if_false, reduceIte]; exact p0, by simp only [AE, Nat.reduceLT, Nat.reduceEqDiff, if_true, if_false, reduceIte]; exact pp1, by simp [AE], by simp [AE], by simp only [AE, Nat.reduceLT, Nat.reduceEqDiff, if_true, if_false, reduceIte]; exact p9⟩
        obtain ⟨e3, r1, r0, rr1, r7, r8, r9⟩ := hrun
        rw [r1, Ce]
        exact ⟨by omega, e3, h', rfl, rfl, _, r0, rr1, r7, r8, r9, hle, by omega, by omega, hu⟩
  · right
    have c1 : iEq ((p + i : Nat) : Int) (l.length : Int) = true := by rw [B6]; simp; omega
    have hrun : ∃ e2, gB9 F e' h' = .ret e2 h' ∧ AB 4 e2 = .int .u64 0 ∧ AB 5 e2 = .int .i64 0 ∧ AB 6 e2 = .int .i64 11 := by
      unfold gB9
      simp only [sT, Nat.reduceLT, Nat.reduceEqDiff, if_true, if_false, reduceIte, Bb, t1, t9, a1, Al, t0, Vl, AO, AN, c1, BL]
      exact ⟨_, rfl, by simp [AE], by simp [AE], by simp [AE]⟩
    obtain ⟨e2, r1, r4, r5, r6⟩ := hrun
    rw [r1]
    refine ⟨rfl, e2, 0, 0, 11, rfl, r4, r5, r6, .inr ⟨?_, by omega⟩⟩
    rw [hu, List.drop_of_length_le (by omega)]; rfl
theorem H9 {n : Nat} {h : Hp} {u : Value} {l : List Nat} {p : Nat} (V : h.Vals u (l.map bv)) (hb : ∀ x ∈ l, x < 256) (hp : p ≤ l.length) (hl : l.length ≤ 1000000) :
    ∃ a b c, call AG (n + 1) 44 [u, .int .i64 (p : Int)] h = .ok (.tuple ⟨[.int .u64 a, .int .i64 b, .int .i64 c]⟩) h ∧ O9 l p a b c := by
  have Vl : Ca u h = .ok (.int .i64 (l.length : Int)) h := by have := V.len; rwa [List.length_map] at this
  have c0 : iLt (p : Int) 0 = false := by rw [As]; simp
  have c1 : iGt (p : Int) (l.length : Int) = false := by rw [BS]; simp; omega
  have pre : ∃ e1, UF (call AG n) (Ak e0 0 [u, .int .i64 (p : Int)]) h = gR9 (call AG n) e1 h ∧ AB 0 e1 = u ∧ AB 1 e1 = .int .i64 (p : Int) ∧ AB 7 e1 = .int .u64 0 ∧ AB 8 e1 = .int .u64 1 ∧ AB 9 e1 = .int .i64 0 := by
    unfold UF
    simp only [AK, AM, Nat.succ_eq_add_one, Nat.zero_add, Nat.reduceAdd, BX, Bj, BZ, Ba, A5, Br, AE, Nat.reduceLT, Nat.reduceEqDiff, if_true, if_false, reduceIte, gD, AO, AN, c0, Al, Vl, c1]
    exact ⟨_, rfl, by simp [AE], by simp [AE], by simp [AE], by simp [AE], by simp [AE]⟩
  obtain ⟨e1, p1, p2, p3, p4, p5, p6⟩ := pre
  obtain ⟨e2, a, b, c, q1, q4, q5, q6, q7⟩ := PZ (F := call AG n) V hb hp hl p2 p3 p4 p5 p6
  refine ⟨a, b, c, ?_, q7⟩
  rw [Yl rfl, Y6, p1, Zo]
  simp only [Aq, q1, BL, AZ, CW, q4, q5, q6]
end
end Go.Proofs.Ytkafejncffinmaa
set_option linter.unusedVariables false
set_option linter.unusedSimpArgs false
namespace Go.Proofs.Ytkafejncffinmaa
noncomputable section
open Go
set_option maxRecDepth 100000
def stT : C := (AP (AB 37)
(cOp (AC 2) (AD (kV (.bool false)))
Ae)
Ac)
def stK (K : C) : C := (cOp (AC 12) (A9 1 (AB 0) (AB 3))
(cOp (AC 13) (AH (AB 12))
(cOp (AC 14) (AL iLt .i64 (AB 13) (kV (.int .i64 0)))
(cG (AB 14) false (AC 16) (AD (AB 0))
(cG (AB 14) false (AC 17) (AD (AB 3))
(cG (AB 14) false (AC 18) (A9 1 (AB 16) (AB 17))
(cG (AB 14) false (AC 19) (AH (AB 18))
(cG (AB 14) false (AC 20) (AL iGt .i64 (AB 19) (kV (.int .i64 1099511627776)))
(cOp (AC 21) (AS (AB 14) (kV (.bool true)) (AB 20))
(cG (AB 21) false (AC 23) (AD (AB 3))
(cG (AB 21) false (AC 24) (AL iGt .i64 (AB 23) (kV (.int .i64 0)))
(cG (AB 21) false (AC 25) (AD (AB 24))
(cG (AB 25) true (AC 26) (AD (AB 0))
(cG (AB 25) true (AC 27) (AD (AB 3))
(cG (AB 25) true (AC 28) (A9 1 (AB 26) (AB 27))
(cG (AB 25) true (AC 29) (AH (AB 28))
(cG (AB 25) true (AC 30) (AD (AB 0))
(cG (AB 25) true (AC 31) (AD (AB 3))
(cG (AB 25) true (AC 32) (CQ Int.sub .i64 (AB 31) (kV (.int .i64 1)))
(cG (AB 25) true (AC 33) (A9 1 (AB 30) (AB 32))
(cG (AB 25) true (AC 34) (AH (AB 33))
(cG (AB 25) true (AC 35) (AL iLe .i64 (AB 29) (AB 34))
(cG (AB 21) false (AC 36) (AS (AB 25) (AB 35) (kV (.bool false)))
(cOp (AC 37) (AS (AB 21) (kV (.bool true)) (AB 36))
K))))))))))))))))))))))))
def stA : C := (cOp (AC 12) (A9 1 (AB 0) (AB 3))
(cOp (AC 13) (AH (AB 12))
(cOp (AC 14) (AL iLt .i64 (AB 13) (kV (.int .i64 0)))
(cG (AB 14) false (AC 16) (AD (AB 0))
(cG (AB 14) false (AC 17) (AD (AB 3))
(cG (AB 14) false (AC 18) (A9 1 (AB 16) (AB 17))
(cG (AB 14) false (AC 19) (AH (AB 18))
(cG (AB 14) false (AC 20) (AL iGt .i64 (AB 19) (kV (.int .i64 1099511627776)))
(cOp (AC 21) (AS (AB 14) (kV (.bool true)) (AB 20))
(cG (AB 21) false (AC 23) (AD (AB 3))
(cG (AB 21) false (AC 24) (AL iGt .i64 (AB 23) (kV (.int .i64 0)))
(cG (AB 21) false (AC 25) (AD (AB 24))
(cG (AB 25) true (AC 26) (AD (AB 0))
(cG (AB 25) true (AC 27) (AD (AB 3))
(cG (AB 25) true (AC 28) (A9 1 (AB 26) (AB 27))
(cG (AB 25) true (AC 29) (AH (AB 28))
(cG (AB 25) true (AC 30) (AD (AB 0))
(cG (AB 25) true (AC 31) (AD (AB 3))
(cG (AB 25) true (AC 32) (CQ Int.sub .i64 (AB 31) (kV (.int .i64 1)))
(cG (AB 25) true (AC 33) (A9 1 (AB 30) (AB 32))
(cG (AB 25) true (AC 34) (AH (AB 33))
(cG (AB 25) true (AC 35) (AL iLe .i64 (AB 29) (AB 34))
(cG (AB 21) false (AC 36) (AS (AB 25) (AB 35) (kV (.bool false)))
(cOp (AC 37) (AS (AB 21) (kV (.bool true)) (AB 36))
(AP (AB 37)
(cOp (AC 2) (AD (kV (.bool false)))
Ae)
Ac)))))))))))))))))))))))))
theorem ai : stA = stK stT := rfl
def stB : C := (cOp (AC 6) (Af (AB 0))
(cOp (AC 7) (AL iLt .i64 (AB 3) (AB 6))
(AP (AB 7)
(Ar (AX 1 (Bx stA))
(cOp (AC 9) (A4 .i64 (Ai .i64) (AB 3) (kV (.int .i64 1)))
(cOp (AC 3) (AD (AB 9))
Ac)))
(A7 0))))
def stE : C := (cOp (AC 2) (AD (kV (.bool true)))
Ae)
def stS : C := (Ar (AX 0 (Ao (cOp (AC 6) (Af (AB 0))
(cOp (AC 7) (AL iLt .i64 (AB 3) (AB 6))
(AP (AB 7)
(Ar (AX 1 (Bx (cOp (AC 12) (A9 1 (AB 0) (AB 3))
(cOp (AC 13) (AH (AB 12))
(cOp (AC 14) (AL iLt .i64 (AB 13) (kV (.int .i64 0)))
(cG (AB 14) false (AC 16) (AD (AB 0))
(cG (AB 14) false (AC 17) (AD (AB 3))
(cG (AB 14) false (AC 18) (A9 1 (AB 16) (AB 17))
(cG (AB 14) false (AC 19) (AH (AB 18))
(cG (AB 14) false (AC 20) (AL iGt .i64 (AB 19) (kV (.int .i64 1099511627776)))
(cOp (AC 21) (AS (AB 14) (kV (.bool true)) (AB 20))
(cG (AB 21) false (AC 23) (AD (AB 3))
(cG (AB 21) false (AC 24) (AL iGt .i64 (AB 23) (kV (.int .i64 0)))
(cG (AB 21) false (AC 25) (AD (AB 24))
(cG (AB 25) true (AC 26) (AD (AB 0))
(cG (AB 25) true (AC 27) (AD (AB 3))
(cG (AB 25) true (AC 28) (A9 1 (AB 26) (AB 27))
(cG (AB 25) true (AC 29) (AH (AB 28))
(cG (AB 25) true (AC 30) (AD (AB 0))
(cG (AB 25) true (AC 31) (AD (AB 3))
(cG (AB 25) true (AC 32) (CQ Int.sub .i64 (AB 31) (kV (.int .i64 1)))
(cG (AB 25) true (AC 33) (A9 1 (AB 30) (AB 32))
(cG (AB 25) true (AC 34) (AH (AB 33))
(cG (AB 25) true (AC 35) (AL iLe .i64 (AB 29) (AB 34))
(cG (AB 21) false (AC 36) (AS (AB 25) (AB 35) (kV (.bool false)))
(cOp (AC 37) (AS (AB 21) (kV (.bool true)) (AB 36))
(AP (AB 37)
(cOp (AC 2) (AD (kV (.bool false)))
Ae)
Ac)))))))))))))))))))))))))))
(cOp (AC 9) (A4 .i64 (Ai .i64) (AB 3) (kV (.int .i64 1)))
(cOp (AC 3) (AD (AB 9))
Ac)))
(A7 0))))))
(cOp (AC 2) (AD (kV (.bool true)))
Ae))
theorem TL : stS = Ar (AX 0 (Ao stB)) stE := rfl
def UD : C := (cOp (AC 2) (AD (kV (.bool false)))
(cOp (AC 3) (AD (kV (.int .i64 0)))
stS))
def d40 : C := UD
theorem Qk {n : Nat} {args : List Value} {h : Hp} (hl : Nat.ble (Bk args) 320 = true) : call AG (Nat.succ n) 40 args h = Bs [.t (AB 2)] (d40 (call AG n) (Ak e0 0 args) h) := by
  have hb : AG.get 40 = some b40 := by kernel_rfl
  rw [BM hb]
  have hd : b40 = ⟨[.t (AB 2)], d40⟩ := by kernel_rfl
  rw [hd, BC hl]
theorem Q8 : d40 = UD := rfl
theorem aj {K : C} {F : CallF} {h : Hp} {e : Env} {u : Value} {z q : Int} {i : Nat} {a : Addr} {b1 b2 b3 b4 : Bool} (s0 : AB 0 e = u) (s3 : AB 3 e = .int .i64 (i : Int)) (g1 : ET 1 u (.int .i64 (i : Int)) h = .ok (.pointer (some a)) h) (g2 : Cu (.pointer (some a)) h = .ok (.int .i64 z) h) (f1 : iLt z 0 = b1) (f2 : iGt z 1099511627776 = b2) (f3 : iGt (i : Int) 0 = b3)
    (g : b3 = true → ∃ j a, GR Int.sub .i64 (.int .i64 (i : Int)) (.int .i64 1) h = .ok j h ∧ ET 1 u j h = .ok (.pointer (some a)) h ∧ Cu (.pointer (some a)) h = .ok (.int .i64 q) h ∧ iLe z q = b4) :
    ∃ e', stK K F e h = K F e' h ∧ AB 37 e' = .bool ((b1 || b2) || (b3 && b4)) ∧ AB 0 e' = AB 0 e ∧ AB 3 e' = AB 3 e := by
  unfold stK
  cases b3 with
  | false =>
    cases b1 <;> cases b2 <;>
    · simp only [sT, Nat.reduceLT, Nat.reduceEqDiff, if_true, if_false, reduceIte, gD, BV, s0, s3, g1, Ab, g2, AO, AN, f1, f2, f3]
      exact ⟨_, rfl, by simp only [AE, Nat.reduceLT, Nat.reduceEqDiff, if_true, if_false, reduceIte]; rfl, by simp only [AE, Nat.reduceLT, Nat.reduceEqDiff, if_true, if_false, reduceIte, s0], by simp only [AE, Nat.reduceLT, Nat.reduceEqDiff, if_true, if_false, reduceIte, s3]⟩
  | true =>
    obtain ⟨j, a, k1, k2, k3, k4⟩ := g rfl
    cases b1 <;> cases b2 <;> cases b4 <;>
    · simp only [sT, Nat.reduceLT, Nat.reduceEqDiff, if_true, if_false, reduceIte, gD, BV, s0, s3, g1, Ab, g2, AO, AN, f1, f2, f3, EJ, k1, k2, k3, k4]
      exact ⟨_, rfl, by simp only [AE, Nat.reduceLT, Nat.reduceEqDiff, if_true, if_false, reduceIte]; rfl, by simp only [AE, Nat.reduceLT, Nat.reduceEqDiff, if_true, if_false, reduceIte, s0], by simp only [AE, Nat.reduceLT, Nat.reduceEqDiff, if_true, if_false, reduceIte, s3]⟩
theorem WQ {F : CallF} {h : Hp} {u : Value} {zs : List Int} (V : h.Vals u (ints .i64 zs)) (hl2 : zs.length < 900000) {e : Env} (s0 : AB 0 e = u) (s3 : AB 3 e = .int .i64 0) :
    (∃ e' h', Ao stB F e h = .exit 0 e' h' ∧ (h' = h ∨ h' = h.marked) ∧ BN (-1) zs = true) ∨ (∃ e' h', Ao stB F e h = .ret e' h' ∧ (h' = h ∨ h' = h.marked) ∧ AB 2 e' = .bool false ∧ BN (-1) zs = false) := by
  refine Bo (I := fun i e' h' => (h' = h ∨ h' = h.marked) ∧ AB 0 e' = u ∧ AB 3 e' = .int .i64 (i : Int) ∧ i ≤ zs.length ∧ BN (-1) zs = BN (Dc zs i) (zs.drop i))
    (Q := fun x => (∃ e' h', x = .exit 0 e' h' ∧ (h' = h ∨ h' = h.marked) ∧ BN (-1) zs = true) ∨ (∃ e' h', x = .ret e' h' ∧ (h' = h ∨ h' = h.marked) ∧ AB 2 e' = .bool false ∧ BN (-1) zs = false)) zs.length (by omega) (fun i e' h' ⟨hh, t0, t3, hi, hr⟩ => ?_)
    ⟨.inl rfl, s0, s3, Nat.zero_le _, rfl⟩
  have hm : h'.marked = h.marked := by rcases hh with rfl | rfl <;> rfl
  have hbl : h'.bl = h.bl := by rcases hh with rfl | rfl <;> rfl
  have V1 := V.same hbl
  by_cases hlt : i < zs.length
  · have V2 : h.marked.Vals u (ints .i64 zs) := V.same rfl
    obtain ⟨a, g1, g2⟩ := V2.int hlt
    have hd : zs.drop i = zs.getD i 0 :: zs.drop (i + 1) := by
      rw [List.drop_eq_getElem_cons hlt, List.getD_eq_getElem?_getD, List.getElem?_eq_getElem hlt]; rfl
    rw [hd] at hr
    have hnext : Dc zs (i + 1) = zs.getD i 0 := rfl
    generalize hz : zs.getD i 0 = z at g2 hr hnext
    have c1 : iLt (i : Int) (zs.length : Int) = true := by rw [As]; simp; omega
    have key : ∃ (q : Int) (b4 : Bool), (iGt (i : Int) 0 = true → ∃ j a, GR Int.sub .i64 (.int .i64 (i : Int)) (.int .i64 1) h.marked = .ok j h.marked ∧ ET 1 u j h.marked = .ok (.pointer (some a)) h.marked ∧ Cu (.pointer (some a)) h.marked = .ok (.int .i64 q) h.marked ∧ iLe z q = b4) ∧
        (((iLt z 0 || iGt z 1099511627776) || (iGt (i : Int) 0 && b4)) = true ↔ ¬ (0 ≤ z ∧ z ≤ 1099511627776 ∧ Dc zs i < z)) := by
      cases i with
      | zero =>
        refine ⟨0, false, fun h0 => ?_, ?_⟩
        · rw [BS] at h0; simp at h0
        · rw [As, BS, BS]
          show _ ↔ ¬ (0 ≤ z ∧ z ≤ 1099511627776 ∧ (-1 : Int) < z)
          simp
          omega
      | succ j =>
        obtain ⟨a', k1, k2⟩ := V2.int (i := j) (by omega)
        refine ⟨zs.getD j 0, iLe z (zs.getD j 0), fun _ => ⟨.int .i64 (j : Int), a', ?_, k1, k2, rfl⟩, ?_⟩
        · have : Int.sub ((j + 1 : Nat) : Int) 1 = (j : Int) := by show ((j + 1 : Nat) : Int) - 1 = j; omega
          rw [Do, this, BJ (by omega)]
        · rw [As, BS, BS, HZ]
          show _ ↔ ¬ (0 ≤ z ∧ z ≤ 1099511627776 ∧ zs.getD j 0 < z)
          simp only [Bool.or_eq_true, Bool.and_eq_true, decide_eq_true_eq]
          omega
    obtain ⟨q, b4, kg, kb⟩ := key
    obtain ⟨e2, q1, q2, q3, q4⟩ := aj (K := stT) (F := F) (h := h.marked) (e := Env.set 7 (.bool true) (Env.set 6 (.int .i64 (zs.length : Int)) e')) (u := u) (z := z) (q := q) (i := i) (a := a) (b4 := b4) (by simp only [AE, Nat.reduceLT, Nat.reduceEqDiff, if_true, if_false, reduceIte]; exact t0) (by simp only [AE, Nat.reduceLT, Nat.reduceEqDiff, if_true, if_false, reduceIte]; exact t3) g1 g2 rfl rfl rfl kg
    rw [show AB 0 (Env.set 7 (.bool true) (Env.set 6 (.int .i64 (zs.length : Int)) e')) = u by simp only [AE, Nat.reduceLT, Nat.reduceEqDiff, if_true, if_false, reduceIte]; exact t0] at q3
    rw [show AB 3 (Env.set 7 (.bool true) (Env.set 6 (.int .i64 (zs.length : Int)) e')) = .int .i64 (i : Int) by simp only [AE, Nat.reduceLT, Nat.reduceEqDiff, if_true, if_false, reduceIte]; exact t3] at q4
    have pre : stB F e' h' = Hi (DT 1 (stT F e2 h.marked)) (cOp (AC 9) (A4 .i64 (Ai .i64) (AB 3) (kV (.int .i64 1))) (cOp (AC 3) (AD (AB 9)) Ac)) F := by
      unfold stB
      simp only [sT, Nat.reduceLT, Nat.reduceEqDiff, if_true, if_false, reduceIte, Al, t0, V1.ilen, AO, AN, t3, c1, Cw, hm, ai, q1]
    have hr : BN (-1) zs = (decide (0 ≤ z ∧ z ≤ 1099511627776 ∧ Dc zs i < z) && BN z (zs.drop (i + 1))) := hr
    generalize ((iLt z 0 || iGt z 1099511627776) || (iGt (i : Int) 0 && b4)) = b at q2 kb
    cases b with
    | true =>
      right
      have hno : ¬ (0 ≤ z ∧ z ≤ 1099511627776 ∧ Dc zs i < z) := kb.1 rfl
      have hrun : ∃ e3, stT F e2 h.marked = .ret e3 h.marked ∧ AB 2 e3 = .bool false := by
        unfold stT
        simp only [sT, Nat.reduceLT, Nat.reduceEqDiff, if_true, if_false, reduceIte, q2]
        exact ⟨_, rfl, by simp [AE]⟩
      obtain ⟨e3, r1, r2⟩ := hrun
      rw [pre, r1, BL, Bw]
      refine ⟨rfl, .inr ⟨e3, _, rfl, .inr rfl, r2, ?_⟩⟩
      rw [hr, decide_eq_false hno]; rfl
    | false =>
      left
      have hok : 0 ≤ z ∧ z ≤ 1099511627776 ∧ Dc zs i < z := by
        by_cases hx : 0 ≤ z ∧ z ≤ 1099511627776 ∧ Dc zs i < z
        · exact hx
        · have := kb.2 hx; cases this
      have a3 : Ci .i64 (.int .i64 (i : Int)) (.int .i64 1) h.marked = .ok (.int .i64 ((i + 1 : Nat) : Int)) h.marked := by
        have : (i : Int) + 1 = ((i + 1 : Nat) : Int) := by omega
        rw [Bc, this, BJ (by omega)]
      have hrun : ∃ e4, stB F e' h' = .norm e4 h.marked ∧ AB 0 e4 = u ∧ AB 3 e4 = .int .i64 ((i + 1 : Nat) : Int) := by
        rw [pre]
        unfold stT
        simp only [sT, Nat.reduceLT, Nat.reduceEqDiff, if_true, if_false, reduceIte, q2, Bb, q4, a3]
        exact ⟨_, rfl, by simp only [AE, Nat.reduceLT, Nat.reduceEqDiff, if_true, if_false, reduceIte]; exact q3, by simp [AE]⟩
      obtain ⟨e4, k1, k2, k3⟩ := hrun
      refine ⟨hlt, e4, _, k1, .inr rfl, k2, k3, hlt, ?_⟩
      rw [hr, decide_eq_true hok, hnext]; rfl
  · right
    have c1 : iLt (i : Int) (zs.length : Int) = false := by rw [As]; simp; omega
    have hrun : ∃ e2, stB F e' h' = .exit 0 e2 h' := by
      unfold stB
      simp only [sT, Nat.reduceLT, Nat.reduceEqDiff, if_true, if_false, reduceIte, Al, t0, V1.ilen, AO, AN, t3, c1]
      exact ⟨_, rfl⟩
    obtain ⟨e2, r1⟩ := hrun
    rw [r1]
    refine ⟨rfl, .inl ⟨e2, _, rfl, hh, ?_⟩⟩
    rw [hr, List.drop_of_length_le (by omega)]; rfl
theorem JM {n : Nat} {h : Hp} {u : Value} {zs : List Int} (V : h.Vals u (ints .i64 zs)) (hl : zs.length < 900000) : ∃ h', call AG (n + 1) 40 [u] h = .ok (.bool (BN (-1) zs)) h' ∧ (h' = h ∨ h' = h.marked) := by
  have pre : ∃ e1, UD (call AG n) (Ak e0 0 [u]) h = stS (call AG n) e1 h ∧ AB 0 e1 = u ∧ AB 3 e1 = .int .i64 0 := by
    unfold UD
    simp only [AK, AM, Nat.succ_eq_add_one, Nat.zero_add, Nat.reduceAdd, BX, BZ, A5, Br, AE, Nat.reduceLT, Nat.reduceEqDiff, if_true, if_false, reduceIte]
    exact ⟨_, rfl, by simp [AE], by simp [AE]⟩
  obtain ⟨e1, p1, p2, p3⟩ := pre
  rcases WQ (F := call AG n) V hl p2 p3 with ⟨e2, h', q1, q2, q3⟩ | ⟨e2, h', q1, q2, q3, q4⟩
  · refine ⟨h', ?_, q2⟩
    rw [Qk rfl, Q8, p1, TL]
    simp only [BI, Aq, q1, BA, BH]
    unfold stE
    simp only [sT, Nat.reduceLT, Nat.reduceEqDiff, if_true, if_false, reduceIte, AZ, Ap, q3]
  · refine ⟨h', ?_, q2⟩
    rw [Qk rfl, Q8, p1, TL]
    simp only [BI, Aq, q1, BL, Bw, AZ, Ap, q3, q4]
theorem GU {F : CallF} {h : Hp} (W : h.Wf) {f t : Int} {u : Value} {g : O} {e : Env} (he : g e = mvV f t u) : Bu g F e h = .ok (.pointer (some ⟨h.next, 0, none⟩)) (h.pushRow 0 [.int .i64 f, .int .i64 t, u]) := by
  rw [DF, he, DD W]; rfl
theorem FK {n : Nat} {h : Hp} (W : h.Wf) {f t : Int} {u : Value} {zs : List Int} (V : h.Vals u (ints .i64 zs)) (hl : zs.length < 900000) : ∃ h', call AG (n + 2) 27 [mvV f t u] h = .ok (.bool (Bq f t zs)) h' ∧ h.Ext h' := by
  have R := Hp.Row.new W 0 [.int .i64 f, .int .i64 t, u]
  have x1 := (Hp.Ext.refl W).pushRow 0 [.int .i64 f, .int .i64 t, u]
  have V1 := V.ext W x1
  have hbx : ∀ e : Env, AB 0 e = mvV f t u → Bu (AB 0) (call AG (n + 1)) e h = .ok (.pointer (some ⟨h.next, 0, none⟩)) (h.pushRow 0 [.int .i64 f, .int .i64 t, u]) := fun e he => GU W he
  generalize h.pushRow 0 [.int .i64 f, .int .i64 t, u] = h1 at R x1 V1 hbx
  have l0 : load1 ⟨h.next, 0, none⟩ h1 = .ok (.int .i64 f) h1 := R.load1 (off := 0) (by simp)
  have l1 : load1 ⟨h.next, 1, none⟩ h1 = .ok (.int .i64 t) h1 := R.load1 (off := 1) (by simp)
  have l2 : load1 ⟨h.next, 2, none⟩ h1 = .ok u h1 := R.load1 (off := 2) (by simp)
  obtain ⟨h3, k3, k4⟩ := JM (n := n) V1 hl
  have x3 : h.Ext h3 := by
    rcases k4 with rfl | rfl
    · exact x1
    · exact x1.marked
  have hb : Bq f t zs = (iGe f 0 && (iLt f 256 && (iGe t 0 && (iLt t 256 && (iNe f t && (iLe (zs.length : Int) 10000 && BN (-1) zs)))))) := by
    unfold Bq
    rw [Cl, As, Cl, As, DB, HZ, Bool.eq_iff_iff]
    simp only [Bool.and_eq_true, decide_eq_true_eq, Bool.not_eq_true', beq_eq_false_iff_ne]
    constructor
    · rintro ⟨⟨a, b, c, d, e, g⟩, k⟩; exact ⟨a, b, c, d, e, by omega, k⟩
    · rintro ⟨a, b, c, d, e, g, k⟩; exact ⟨⟨a, b, c, d, e, by omega⟩, k⟩
  rw [hb]
  generalize c1 : iGe f 0 = b1
  generalize c2 : iLt f 256 = b2
  generalize c3 : iGe t 0 = b3
  generalize c4 : iLt t 256 = b4
  generalize c5 : iNe f t = b5
  generalize c6 : iLe (zs.length : Int) 10000 = b6
  generalize BN (-1) zs = b7 at k3 ⊢
  rw [Ya rfl]
  unfold d27
  cases b1
  · refine ⟨h1, ?_, x1⟩
    simp only [AK, AM, Nat.succ_eq_add_one, Nat.zero_add, Nat.reduceAdd, sT, Nat.reduceLT, Nat.reduceEqDiff, if_true, if_false, reduceIte, gD, hbx, AW, Aj, Ab, Am, l0, l1, l2, AO, AN, c1, AZ, Ap, Bool.false_and]
  cases b2
  · refine ⟨h1, ?_, x1⟩
    simp only [AK, AM, Nat.succ_eq_add_one, Nat.zero_add, Nat.reduceAdd, sT, Nat.reduceLT, Nat.reduceEqDiff, if_true, if_false, reduceIte, gD, hbx, AW, Aj, Ab, Am, l0, l1, l2, AO, AN, c1, c2, AZ, Ap, Bool.false_and, Bool.true_and]
  cases b3
  · refine ⟨h1, ?_, x1⟩
    simp only [AK, AM, Nat.succ_eq_add_one, Nat.zero_add, Nat.reduceAdd, sT, Nat.reduceLT, Nat.reduceEqDiff, if_true, if_false, reduceIte, gD, hbx, AW, Aj, Ab, Am, l0, l1, l2, AO, AN, c1, c2, c3, AZ, Ap, Bool.false_and, Bool.true_and]
  cases b4
  · refine ⟨h1, ?_, x1⟩
    simp only [AK, AM, Nat.succ_eq_add_one, Nat.zero_add, Nat.reduceAdd, sT, Nat.reduceLT, Nat.reduceEqDiff, if_true, if_false, reduceIte, gD, hbx, AW, Aj, Ab, Am, l0, l1, l2, AO, AN, c1, c2, c3, c4, AZ, Ap, Bool.false_and, Bool.true_and]
  cases b5
  · refine ⟨h1, ?_, x1⟩
    simp only [AK, AM, Nat.succ_eq_add_one, Nat.zero_add, Nat.reduceAdd, sT, Nat.reduceLT, Nat.reduceEqDiff, if_true, if_false, reduceIte, gD, hbx, AW, Aj, Ab, Am, l0, l1, l2, AO, AN, c1, c2, c3, c4, c5, AZ, Ap, Bool.false_and, Bool.true_and]
  cases b6
  · refine ⟨h1, ?_, x1⟩
    simp only [AK, AM, Nat.succ_eq_add_one, Nat.zero_add, Nat.reduceAdd, sT, Nat.reduceLT, Nat.reduceEqDiff, if_true, if_false, reduceIte, gD, hbx, AW, Aj, Ab, Am, l0, l1, l2, AO, AN, c1, c2, c3, c4, c5, Al, V1.ilen, c6, AZ, Ap, Bool.false_and, Bool.true_and]
  · refine ⟨h3, ?_, x3⟩
    simp only [AK, AM, Nat.succ_eq_add_one, Nat.zero_add, Nat.reduceAdd, sT, Nat.reduceLT, Nat.reduceEqDiff, if_true, if_false, reduceIte, gD, hbx, AW, Aj, Ab, Am, l0, l1, l2, AO, AN, c1, c2, c3, c4, c5, Al, V1.ilen, c6, Ah, AV, Ad, k3, AZ, Ap, Bool.true_and]
def b9B : C := (cOp (AC 26) (AF 2 (AB 1))
(cOp (AC 27) (AH (AB 26))
(cOp (AC 28) (Af (AB 27))
(cOp (AC 29) (AL iLt .i64 (AB 5) (AB 28))
(AP (AB 29)
(Ar (AX 1 (cOp (AC 32) (AF 2 (AB 1))
(cOp (AC 33) (AH (AB 32))
(cOp (AC 35) (A9 1 (AB 33) (AB 5))
(cOp (AC 36) (AH (AB 35))
(cOp (AC 6) (AD (AB 36))
(cOp (AC 38) (AL iGt .i64 (AB 5) (kV (.int .i64 0)))
(Ar (AP (AB 38)
(cOp (AC 40) (AF 2 (AB 1))
(cOp (AC 41) (AH (AB 40))
(cOp (AC 43) (CQ Int.sub .i64 (AB 5) (kV (.int .i64 1)))
(cOp (AC 44) (A9 1 (AB 41) (AB 43))
(cOp (AC 45) (AH (AB 44))
(cOp (AC 46) (CQ Int.sub .i64 (AB 6) (AB 45))
(cOp (AC 6) (AD (AB 46))
Ac)))))))
Ac)
(cOp (AC 49) (BO .u64 (AB 6))
(cOp (AC 50) (AQ 43 [(AB 4), (AB 49)])
(cOp (AC 4) (AD (AB 50))
Ac)))))))))))
(cOp (AC 31) (A4 .i64 (Ai .i64) (AB 5) (kV (.int .i64 1)))
(cOp (AC 5) (AD (AB 31))
Ac)))
(A7 0))))))
def b9E : C := (cOp (AC 2) (AD (AB 4))
(cOp (AC 3) (AD (kV (.int .i64 0)))
Ae))
def b9S : C := (Ar (AX 0 (Ao (cOp (AC 26) (AF 2 (AB 1))
(cOp (AC 27) (AH (AB 26))
(cOp (AC 28) (Af (AB 27))
(cOp (AC 29) (AL iLt .i64 (AB 5) (AB 28))
(AP (AB 29)
(Ar (AX 1 (cOp (AC 32) (AF 2 (AB 1))
(cOp (AC 33) (AH (AB 32))
(cOp (AC 35) (A9 1 (AB 33) (AB 5))
(cOp (AC 36) (AH (AB 35))
(cOp (AC 6) (AD (AB 36))
(cOp (AC 38) (AL iGt .i64 (AB 5) (kV (.int .i64 0)))
(Ar (AP (AB 38)
(cOp (AC 40) (AF 2 (AB 1))
(cOp (AC 41) (AH (AB 40))
(cOp (AC 43) (CQ Int.sub .i64 (AB 5) (kV (.int .i64 1)))
(cOp (AC 44) (A9 1 (AB 41) (AB 43))
(cOp (AC 45) (AH (AB 44))
(cOp (AC 46) (CQ Int.sub .i64 (AB 6) (AB 45))
(cOp (AC 6) (AD (AB 46))
Ac)))))))
Ac)
(cOp (AC 49) (BO .u64 (AB 6))
(cOp (AC 50) (AQ 43 [(AB 4), (AB 49)])
(cOp (AC 4) (AD (AB 50))
Ac)))))))))))
(cOp (AC 31) (A4 .i64 (Ai .i64) (AB 5) (kV (.int .i64 1)))
(cOp (AC 5) (AD (AB 31))
Ac)))
(A7 0))))))))
(cOp (AC 2) (AD (AB 4))
(cOp (AC 3) (AD (kV (.int .i64 0)))
Ae)))
theorem YM : b9S = Ar (AX 0 (Ao b9B)) b9E := rfl
def Yz : C := (cOp (AC 1) (Bu (AB 0))
(cOp (AC 2) (AD (kV (.slice none 0 0)))
(cOp (AC 3) (AD (kV (.int .i64 0)))
(cOp (AC 7) (Aa 3 (AB 1))
(cOp (AC 8) (AQ 27 [(AB 7)])
(cOp (AC 9) (B7 (AB 8))
(AP (AB 9)
(cOp (AC 2) (AD (kV (.slice none 0 0)))
(cOp (AC 3) (AD (kV (.int .i64 167)))
Ae))
(cOp (AC 10) (AF 0 (AB 1))
(cOp (AC 11) (AH (AB 10))
(cOp (AC 12) (BO .u64 (AB 11))
(cOp (AC 13) (AQ 42 [(AB 12)])
(cOp (AC 4) (AD (AB 13))
(cOp (AC 15) (AF 1 (AB 1))
(cOp (AC 16) (AH (AB 15))
(cOp (AC 17) (BO .u64 (AB 16))
(cOp (AC 18) (AQ 43 [(AB 4), (AB 17)])
(cOp (AC 4) (AD (AB 18))
(cOp (AC 20) (AF 2 (AB 1))
(cOp (AC 21) (AH (AB 20))
(cOp (AC 22) (Af (AB 21))
(cOp (AC 23) (BO .u64 (AB 22))
(cOp (AC 24) (AQ 43 [(AB 4), (AB 23)])
(cOp (AC 4) (AD (AB 24))
(cOp (AC 5) (AD (kV (.int .i64 0)))
b9S))))))))))))))))))))))))
theorem Yy : d24 = Yz := rfl
def Ix (zs : List Int) : Nat → Int
  | 0 => 0
  | i + 1 => zs.getD i 0
theorem Tg {n : Nat} {h m : Hp} (W : h.Wf) {A : Nat} {f t : Int} {u : Value} {zs : List Int} (V : h.Vals u (ints .i64 zs)) (RA : h.Row A 0 [.int .i64 f, .int .i64 t, u]) (hl : zs.length ≤ 10000) (hr : BN (-1) zs = true) (x : h.Ext m) {w : Value} {xs : List Nat} (o : m.Own h.next 5 w (xs.map bv)) (hx : xs.length ≤ 30) (hb : ∀ y ∈ xs, y < 256)
    {e : Env} (s1 : AB 1 e = .pointer (some ⟨A, 0, none⟩)) (s4 : AB 4 e = w) (s5 : AB 5 e = .int .i64 0) :
    ∃ e' h' w', Ao b9B (call AG (n + 2)) e m = .exit 0 e' h' ∧ AB 4 e' = w' ∧ h.Ext h' ∧ h'.Own h.next 5 w' ((xs ++ CH 0 zs).map bv) := by
  refine Bo (I := fun i e' h' => ∃ w' ys, h.Ext h' ∧ h'.Own h.next 5 w' (ys.map bv) ∧ (∀ y ∈ ys, y < 256) ∧ ys.length ≤ 30 + 10 * i ∧ i ≤ zs.length ∧ ys ++ CH (Ix zs i) (zs.drop i) = xs ++ CH 0 zs ∧ BN (Dc zs i) (zs.drop i) = true ∧ 0 ≤ Ix zs i ∧ AB 1 e' = .pointer (some ⟨A, 0, none⟩) ∧ AB 4 e' = w' ∧ AB 5 e' = .int .i64 (i : Int))
    (Q := fun y => ∃ e' h' w', y = .exit 0 e' h' ∧ AB 4 e' = w' ∧ h.Ext h' ∧ h'.Own h.next 5 w' ((xs ++ CH 0 zs).map bv)) zs.length (by omega) (fun i e' h' ⟨w', ys, x', o', hb', hy, hi, hd, hr', h0, t1, t4, t5⟩ => ?_)
    ⟨w, xs, x, o, hb, by omega, Nat.zero_le _, rfl, hr, Int.le_refl _, s1, s4, s5⟩
  have V' := V.ext W x'
  have la : Cu (.pointer (some ⟨A, 2, none⟩)) h' = .ok u h' := by rw [Am]; exact (RA.ext W x').load1 (off := 2) (by simp)
  by_cases hlt : i < zs.length
  · left
    obtain ⟨a, g1, g2⟩ := V'.int hlt
    rw [Jp hlt] at hd hr'
    have hlast : Ix zs (i + 1) = zs.getD i 0 := rfl
    have hprev : Dc zs (i + 1) = zs.getD i 0 := rfl
    generalize zs.getD i 0 = z at g2 hd hr' hlast hprev
    have hr2 : (decide (0 ≤ z ∧ z ≤ 1099511627776 ∧ Dc zs i < z) && BN z (zs.drop (i + 1))) = true := hr'
    rw [Bool.and_eq_true, decide_eq_true_eq] at hr2
    obtain ⟨⟨z0, z1, z2⟩, hr3⟩ := hr2
    have hge : Ix zs i ≤ z := by
      cases i with
      | zero => exact z0
      | succ j => exact Int.le_of_lt z2
    obtain ⟨d, hdn⟩ := Int.eq_ofNat_of_zero_le (a := z - Ix zs i) (by omega)
    have c1 : iLt (i : Int) (zs.length : Int) = true := by rw [As]; simp; omega
    have a3 : C2 .u64 (.int .i64 (d : Int)) h' = .ok (.int .u64 (d : Int)) h' := by rw [B0, B5 (by omega)]
    obtain ⟨h2, w2, b1, b2, b3⟩ := JP (n := n) x'.wf o'.vals hb' (by omega) (N := d) (by omega)
    have a4 : Ci .i64 (.int .i64 (i : Int)) (.int .i64 1) h2 = .ok (.int .i64 ((i + 1 : Nat) : Int)) h2 := by
      have : (i : Int) + 1 = ((i + 1 : Nat) : Int) := by omega
      rw [Bc, this, BJ (by omega)]
    generalize hN1 : ((i + 1 : Nat) : Int) = N1 at a4
    have hrun : ∃ e2, b9B (call AG (n + 2)) e' h' = .norm e2 h2 ∧ AB 1 e2 = .pointer (some ⟨A, 0, none⟩) ∧ AB 4 e2 = w2 ∧ AB 5 e2 = .int .i64 N1 := by
      unfold b9B
      cases i with
      | zero =>
        have hz : (d : Int) = z := by
          have : Ix zs 0 = 0 := rfl
          rw [this] at hdn; omega
        rw [hz] at a3 b1
        have c2 : iGt ((0 : Nat) : Int) 0 = false := rfl
        simp only [sT, Nat.reduceLT, Nat.reduceEqDiff, if_true, if_false, reduceIte, AW, t1, Aj, Nat.zero_add, Ab, la, Al, V'.ilen, AO, AN, t5, c1, BV, g1, g2, c2, B4, a3, Ah, AV, Ad, t4, b1, Bb, a4]
        exact ⟨_, rfl, by simp only [AE, Nat.reduceLT, Nat.reduceEqDiff, if_true, if_false, reduceIte]; exact t1, by simp [AE], by simp [AE]⟩
      | succ j =>
        obtain ⟨a', k1, k2⟩ := V'.int (i := j) (by omega)
        have c2 : iGt ((j + 1 : Nat) : Int) 0 = true := by rw [BS, decide_eq_true_eq]; omega
        have a1 : GR Int.sub .i64 (.int .i64 ((j + 1 : Nat) : Int)) (.int .i64 1) h' = .ok (.int .i64 (j : Int)) h' := by
          have : Int.sub ((j + 1 : Nat) : Int) 1 = (j : Int) := by show ((j + 1 : Nat) : Int) - 1 = j; omega
          rw [Do, this, BJ (by omega)]
        have a2 : GR Int.sub .i64 (.int .i64 z) (.int .i64 (zs.getD j 0)) h' = .ok (.int .i64 (d : Int)) h' := by
          have : Int.sub z (zs.getD j 0) = (d : Int) := hdn
          rw [Do, this, BJ (by omega)]
        simp only [sT, Nat.reduceLT, Nat.reduceEqDiff, if_true, if_false, reduceIte, AW, t1, Aj, Nat.zero_add, Ab, la, Al, V'.ilen, AO, AN, t5, c1, BV, g1, g2, c2, EJ, a1, k1, k2, a2, B4, a3, Ah, AV, Ad, t4, b1, Bb, a4]
        exact ⟨_, rfl, by simp only [AE, Nat.reduceLT, Nat.reduceEqDiff, if_true, if_false, reduceIte]; exact t1, by simp [AE], by simp [AE]⟩
    obtain ⟨e2, r1, r2, r3, r4⟩ := hrun
    have hten := Cd (n := d) (by omega)
    refine ⟨hlt, e2, h2, r1, w2, ys ++ BR d, x'.trans b2, b3.le x'.next, fun y hy => (List.mem_append.1 hy).elim (hb' y) (DC d y), by rw [List.length_append]; omega, hlt, ?_, by rw [hprev]; exact hr3, by rw [hlast]; exact z0, r2, r3, r4⟩
    rw [← hd, hlast]
    show ys ++ BR d ++ CH z (zs.drop (i + 1)) = ys ++ (BR (z - Ix zs i).toNat ++ CH z (zs.drop (i + 1)))
    rw [hdn, List.append_assoc]; rfl
  · right
    have c1 : iLt (i : Int) (zs.length : Int) = false := by rw [As]; simp; omega
    have hrun : ∃ e2, b9B (call AG (n + 2)) e' h' = .exit 0 e2 h' ∧ AB 4 e2 = w' := by
      unfold b9B
      simp only [sT, Nat.reduceLT, Nat.reduceEqDiff, if_true, if_false, reduceIte, AW, t1, Aj, Nat.zero_add, Ab, la, Al, V'.ilen, AO, AN, t5, c1]
      exact ⟨_, rfl, by simp only [AE, Nat.reduceLT, Nat.reduceEqDiff, if_true, if_false, reduceIte]; exact t4⟩
    obtain ⟨e2, r1, r2⟩ := hrun
    rw [r1]
    rw [List.drop_of_length_le (by omega)] at hd
    have hd : ys ++ [] = xs ++ CH 0 zs := hd
    rw [List.append_nil] at hd
    rw [hd] at o'
    exact ⟨rfl, e2, h', w', rfl, r2, x', o'⟩
theorem Jf {n : Nat} {h : Hp} (W : h.Wf) {f t : Int} {u : Value} {zs : List Int} (V : h.Vals u (ints .i64 zs)) (hl : zs.length < 900000) (hr : Bq f t zs = false) : ∃ h', call AG (n + 3) 24 [mvV f t u] h = .ok (.tuple ⟨[.slice none 0 0, .int .i64 167]⟩) h' ∧ h.Ext h' := by
  have R := Hp.Row.new W 0 [.int .i64 f, .int .i64 t, u]
  have x1 := (Hp.Ext.refl W).pushRow 0 [.int .i64 f, .int .i64 t, u]
  have hbx : ∀ e : Env, AB 0 e = mvV f t u → Bu (AB 0) (call AG (n + 2)) e h = .ok (.pointer (some ⟨h.next, 0, none⟩)) (h.pushRow 0 [.int .i64 f, .int .i64 t, u]) := fun e he => GU W he
  have V1 := V.ext W x1
  generalize h.pushRow 0 [.int .i64 f, .int .i64 t, u] = h1 at R x1 V1 hbx
  have l1 : loadN 3 ⟨h.next, 0, none⟩ h1 = .ok (mvV f t u) h1 := R.loadN (by simp)
  obtain ⟨h2, k1, k2⟩ := FK (n := n) x1.wf V1 hl (f := f) (t := t)
  rw [hr] at k1
  refine ⟨h2, ?_, x1.trans k2⟩
  rw [Qh rfl]
  unfold d24
  simp only [AK, AM, Nat.succ_eq_add_one, Nat.zero_add, Nat.reduceAdd, BX, Bj, BZ, CM, A5, Br, AE, Nat.reduceLT, Nat.reduceEqDiff, if_true, if_false, reduceIte, hbx, Ay, Aw, l1, Ah, AV, Ad, k1, Bf, Be, Bool.not_false, H8, AZ, Gq]
theorem Jg {n : Nat} {h : Hp} (W : h.Wf) {f t : Int} {u : Value} {zs : List Int} (V : h.Vals u (ints .i64 zs)) (hr : Bq f t zs = true) : ∃ h' v, call AG (n + 3) 24 [mvV f t u] h = .ok (.tuple ⟨[v, .int .i64 0]⟩) h' ∧ h.Ext h' ∧ h'.Own h.next 5 v ((Cj f t zs).map bv) := by
  obtain ⟨f0, f1, t0, t1, _, hl, hrise⟩ := D7 hr
  obtain ⟨a, rfl⟩ := Int.eq_ofNat_of_zero_le f0
  obtain ⟨b, rfl⟩ := Int.eq_ofNat_of_zero_le t0
  have R := Hp.Row.new W 0 [.int .i64 (a : Int), .int .i64 (b : Int), u]
  have x1 := (Hp.Ext.refl W).pushRow 0 [.int .i64 (a : Int), .int .i64 (b : Int), u]
  have hbx : ∀ e : Env, AB 0 e = mvV a b u → Bu (AB 0) (call AG (n + 2)) e h = .ok (.pointer (some ⟨h.next, 0, none⟩)) (h.pushRow 0 [.int .i64 (a : Int), .int .i64 (b : Int), u]) := fun e he => GU W he
  have V1 := V.ext W x1
  generalize h.pushRow 0 [.int .i64 (a : Int), .int .i64 (b : Int), u] = h1 at R x1 V1 hbx
  have l1 : loadN 3 ⟨h.next, 0, none⟩ h1 = .ok (mvV a b u) h1 := R.loadN (by simp)
  obtain ⟨h2, k1, y2⟩ := FK (n := n) x1.wf V1 (by omega) (f := (a : Int)) (t := (b : Int))
  rw [hr] at k1
  have x2 := x1.trans y2
  have R2 := R.ext x1.wf y2
  have l2 : load1 ⟨h.next, 0, none⟩ h2 = .ok (.int .i64 (a : Int)) h2 := R2.load1 (off := 0) (by simp)
  have c2 : C2 .u64 (.int .i64 (a : Int)) h2 = .ok (.int .u64 (a : Int)) h2 := by rw [B0, B5 (by omega)]
  obtain ⟨h3, v3, k3, y3, o3⟩ := KK (n := n + 1) x2.wf (N := a) (by omega)
  have x3 := x2.trans y3
  have R3 := R2.ext x2.wf y3
  have l3 : load1 ⟨h.next, 1, none⟩ h3 = .ok (.int .i64 (b : Int)) h3 := R3.load1 (off := 1) (by simp)
  have c3 : C2 .u64 (.int .i64 (b : Int)) h3 = .ok (.int .u64 (b : Int)) h3 := by rw [B0, B5 (by omega)]
  have ten1 := Cd (n := a) (by omega)
  have ten2 := Cd (n := b) (by omega)
  have ten3 := Cd (n := zs.length) (by omega)
  obtain ⟨h4, v4, k4, y4, o4⟩ := JP (n := n) x3.wf o3.vals (DC a) (by omega) (N := b) (by omega)
  have x4 := x3.trans y4
  have R4 := R3.ext x3.wf y4
  have V4 := V.ext W x4
  have l4 : load1 ⟨h.next, 2, none⟩ h4 = .ok u h4 := R4.load1 (off := 2) (by simp)
  have c4 : C2 .u64 (.int .i64 (zs.length : Int)) h4 = .ok (.int .u64 (zs.length : Int)) h4 := by rw [B0, B5 (by omega)]
  have hb4 : ∀ y ∈ BR a ++ BR b, y < 256 := fun y hy => (List.mem_append.1 hy).elim (DC a y) (DC b y)
  obtain ⟨h5, v5, k5, y5, o5⟩ := JP (n := n) x4.wf o4.vals hb4 (by rw [List.length_append]; omega) (N := zs.length) (by omega)
  have x5 := x4.trans y5
  have pre : ∃ e1, Yz (call AG (n + 2)) (Ak e0 0 [mvV a b u]) h = b9S (call AG (n + 2)) e1 h5 ∧ AB 1 e1 = .pointer (some ⟨h.next, 0, none⟩) ∧ AB 4 e1 = v5 ∧ AB 5 e1 = .int .i64 0 := by
    unfold Yz
    simp only [AK, AM, Nat.succ_eq_add_one, Nat.zero_add, Nat.reduceAdd, BX, Bj, BZ, Ba, A5, Br, AE, Nat.reduceLT, Nat.reduceEqDiff, if_true, if_false, reduceIte, hbx, Ay, Aw, l1, Ah, AV, Ad, k1, Bf, Be, Bool.not_true, AW, Aj, Ab, Am, l2, l3, l4, B4, c2, c3, c4, Al, V4.ilen, k3, k4, k5]
    exact ⟨_, rfl, by simp [AE], by simp [AE], by simp [AE]⟩
  obtain ⟨e1, p1, p2, p3, p4⟩ := pre
  have V1' := V.ext W x1
  obtain ⟨e2, h', w', q1, q2, q3, q4⟩ := Tg (n := n) x1.wf V1 R hl hrise ((y2.trans y3).trans (y4.trans y5)) (o5.le (by have := y2.next; have := y3.next; have := y4.next; omega)) (by rw [List.length_append, List.length_append]; omega) (fun y hy => (List.mem_append.1 hy).elim (hb4 y) (DC _ y)) p2 p3 p4
  refine ⟨h', w', ?_, x1.trans q3, ?_⟩
  · rw [Qh rfl, Yy, p1, YM]
    simp only [BI, Aq, q1, BA, BH]
    unfold b9E
    simp only [sT, Nat.reduceLT, Nat.reduceEqDiff, if_true, if_false, reduceIte, AZ, Gq, q2]
  · have : Cj a b zs = BR a ++ BR b ++ BR zs.length ++ CH 0 zs := by
      show BR (a : Int).toNat ++ (BR (b : Int).toNat ++ (BR zs.length ++ CH 0 zs)) = _
      simp
    rw [this]
    exact q4.le x1.next
end
end Go.Proofs.Ytkafejncffinmaa
set_option linter.unusedVariables false
set_option linter.unusedSimpArgs false
namespace Go.Proofs.Ytkafejncffinmaa
noncomputable section
open Go
set_option maxRecDepth 100000
def nxV (l : List Nat) (most : Nat) (bad : Bool) (p : Nat) : Nat × Bool × Nat := if bad = true then (0, true, p) else match Cb 0 0 (l.drop p) with
  | none => (0, true, p)
  | some (v, j) => if v ≤ most then (v, false, p + j) else (0, true, p)
theorem Ol {l : List Nat} {most p : Nat} : nxV l most true p = (0, true, p) := rfl
theorem FJ {l : List Nat} {most p : Nat} (h : Cb 0 0 (l.drop p) = none) : nxV l most false p = (0, true, p) := by
  unfold nxV
  rw [if_neg (by decide), h]
theorem EV {l : List Nat} {most p v j : Nat} (h : Cb 0 0 (l.drop p) = some (v, j)) : nxV l most false p = if v ≤ most then (v, false, p + j) else (0, true, p) := by
  unfold nxV
  rw [if_neg (by decide), h]
theorem Ku {l : List Nat} (hb : ∀ x ∈ l, x < 256) {most p : Nat} {bad : Bool} (hp : p ≤ l.length) : (nxV l most bad p).2.2 ≤ l.length ∧ (nxV l most bad p).1 ≤ most ∧ (bad = true → (nxV l most bad p).2.1 = true) ∧ ((nxV l most bad p).2.1 = true → (nxV l most bad p).1 = 0) := by
  cases bad with
  | true => rw [Ol]; exact ⟨hp, Nat.zero_le _, fun _ => rfl, fun _ => rfl⟩
  | false =>
    cases hu : Cb 0 0 (l.drop p) with
    | none => rw [FJ hu]; exact ⟨hp, Nat.zero_le _, (fun h => by cases h), fun _ => rfl⟩
    | some vj =>
      obtain ⟨v, j⟩ := vj
      rw [EV hu]
      have := Mm (fun x hx => hb x (List.mem_of_mem_drop hx)) hu
      rw [List.length_drop] at this
      by_cases hv : v ≤ most
      · rw [if_pos hv]; exact ⟨by show p + j ≤ _; omega, hv, (fun h => by cases h), (fun h => by cases h)⟩
      · rw [if_neg hv]; exact ⟨hp, Nat.zero_le _, (fun h => by cases h), fun _ => rfl⟩
theorem Sr (l : List Nat) (p k : Nat) (last : Int) : C0 (k + 1) last (l.drop p) = if (nxV l 1099511627776 false p).2.1 = true ∨ 1099511627776 < last + ((nxV l 1099511627776 false p).1 : Int) then none else (match C0 k (last + ((nxV l 1099511627776 false p).1 : Int)) (l.drop (nxV l 1099511627776 false p).2.2) with
    | some (xs, q) => some ((last + ((nxV l 1099511627776 false p).1 : Int)) :: xs, q)
    | none => none) := by
  cases hu : Cb 0 0 (l.drop p) with
  | none =>
    rw [FJ hu, if_pos (.inl rfl), C0, hu]
  | some vj =>
    obtain ⟨v, j⟩ := vj
    rw [EV hu, C0, hu]
    by_cases hv : v ≤ 1099511627776
    · rw [if_pos hv]
      by_cases h2 : last + (v : Int) ≤ 1099511627776
      · have h3 : ¬ (false = true ∨ 1099511627776 < last + (v : Int)) := by
          rintro (h | h)
          · cases h
          · omega
        simp only
        rw [if_pos ⟨hv, h2⟩, if_neg h3, List.drop_drop]
        rfl
      · simp only
        rw [if_neg (fun h => h2 h.2), if_pos (.inr (by omega))]
    · rw [if_neg hv]
      simp only
      rw [if_neg (fun h => hv h.1), if_pos (.inl (by first | rfl | trivial))]
theorem Sq (l : List Nat) : ∀ s1 s2 s3, s1 = nxV l 256 false 0 → s2 = nxV l 256 s1.2.1 s1.2.2 → s3 = nxV l 10000 s2.2.1 s2.2.2 →
    HB l = if s3.2.1 = true then none else (match C0 s3.1 0 (l.drop s3.2.2) with
      | none => none
      | some (xs, q) => some ((s1.1 : Int), (s2.1 : Int), xs, q)) := by
  intro s1 s2 s3 h1 h2 h3
  unfold HB
  cases hu : Cb 0 0 l with
  | none =>
    rw [FJ (by rw [List.drop_zero]; exact hu)] at h1
    subst h1
    have h2 : s2 = (0, true, 0) := h2
    subst h2
    have h3 : s3 = (0, true, 0) := h3
    subst h3
    rfl
  | some vj =>
    obtain ⟨f, j⟩ := vj
    rw [EV (by rw [List.drop_zero]; exact hu)] at h1
    simp only
    by_cases hf : f ≤ 256
    · rw [if_pos hf] at h1 ⊢
      subst h1
      simp only [Nat.zero_add] at h2 ⊢
      cases hu2 : Cb 0 0 (l.drop j) with
      | none =>
        rw [FJ hu2] at h2
        subst h2
        have h3 : s3 = (0, true, j) := h3
        subst h3
        rfl
      | some vj2 =>
        obtain ⟨t, j2⟩ := vj2
        rw [EV hu2] at h2
        simp only
        by_cases ht : t ≤ 256
        · rw [if_pos ht] at h2 ⊢
          subst h2
          simp only at h3 ⊢
          rw [List.drop_drop]
          cases hu3 : Cb 0 0 (l.drop (j + j2)) with
          | none =>
            rw [FJ hu3] at h3
            subst h3
            rfl
          | some vj3 =>
            obtain ⟨m, j3⟩ := vj3
            rw [EV hu3] at h3
            simp only
            by_cases hm : m ≤ 10000
            · rw [if_pos hm] at h3 ⊢
              subst h3
              simp only
              rw [List.drop_drop, if_neg (by decide)]
              rfl
            · rw [if_neg hm] at h3 ⊢
              subst h3
              rfl
        · rw [if_neg ht] at h2 ⊢
          subst h2
          have h3 : s3 = (0, true, j) := h3
          subst h3
          rfl
    · rw [if_neg hf] at h1 ⊢
      subst h1
      have h2 : s2 = (0, true, 0) := h2
      subst h2
      have h3 : s3 = (0, true, 0) := h3
      subst h3
      rfl
def ptr (b : Nat) : Value := .pointer (some ⟨b, 0, none⟩)
structure NxAfter (h0 h h' : Hp) (b4 b5 : Nat) (s : Nat × Bool × Nat) : Prop where
  ext : h0.Ext h'
  next : h'.next = h.next
  r4 : h'.Row b4 0 [.int .i64 (s.2.2 : Int)]
  r5 : h'.Row b5 0 [.bool s.2.1]
  keep : ∀ b el L, b ≠ b4 → b ≠ b5 → h.Row b el L → h'.Row b el L
theorem IC {n : Nat} {h0 h : Hp} (W0 : h0.Wf) (x : h0.Ext h) {u : Value} {l : List Nat} (V : h0.Vals u (l.map bv)) (hb : ∀ x ∈ l, x < 256) (hl : l.length ≤ 1000000) {b1 b4 b5 p : Nat} {bad : Bool} (r1 : h.Row b1 0 [u]) (r4 : h.Row b4 0 [.int .i64 (p : Int)]) (r5 : h.Row b5 0 [.bool bad])
    (h14 : b1 ≠ b4) (h15 : b1 ≠ b5) (h45 : b4 ≠ b5) (hb4 : h0.next ≤ b4) (hb5 : h0.next ≤ b5) (hp : p ≤ l.length) {most : Nat} (hm : most ≤ 1099511627776) :
    ∃ h', call AG (n + 2) 37 [.int .i64 (most : Int), ptr b5, ptr b1, ptr b4] h = .ok (.int .i64 ((nxV l most bad p).1 : Int)) h' ∧ NxAfter h0 h h' b4 b5 (nxV l most bad p) := by
  have W := x.wf
  have ld5 : load1 ⟨b5, 0, none⟩ h = .ok (.bool bad) h := r5.load1 (off := 0) (by simp)
  cases bad with
  | true =>
    rw [Ol]
    refine ⟨h, ?_, x, rfl, r4, r5, fun _ _ _ _ _ r => r⟩
    rw [KT rfl]
    unfold d37 ptr
    simp only [AK, AM, Nat.succ_eq_add_one, Nat.zero_add, Nat.reduceAdd, sT, Nat.reduceLT, Nat.reduceEqDiff, if_true, if_false, reduceIte, Ab, Am, ld5, AZ, Ap]; rfl
  | false =>
    have ld1 : load1 ⟨b1, 0, none⟩ h = .ok u h := r1.load1 (off := 0) (by simp)
    have ld4 : load1 ⟨b4, 0, none⟩ h = .ok (.int .i64 (p : Int)) h := r4.load1 (off := 0) (by simp)
    obtain ⟨A, B, C, k1, k2⟩ := Zt (n := n) (V.ext W0 x) hb hp hl
    have cm : C2 .u64 (.int .i64 (most : Int)) h = .ok (.int .u64 (most : Int)) h := by rw [B0, B5 (by omega)]
    have h256 : 256 ≤ b5 := Nat.le_trans W0.big hb5
    have h256' : 256 ≤ b4 := Nat.le_trans W0.big hb4
    have fin : ∀ bd : Bool, ∃ g, storeR 1 (ptr b5) (.bool bd) h = .ok noRes g ∧ h0.Ext g ∧ g.next = h.next ∧ g.Row b5 0 [.bool bd] ∧ ∀ b el L, b ≠ b5 → h.Row b el L → g.Row b el L := fun bd => by
      have st := r5.storeR (n := 1) (off := 0) W h256 (v := .bool bd) rfl (by simp [cellsOf]) rfl
      exact ⟨_, st, r5.wr_ext x hb5 (by simp [cellsOf]), r5.wr_next (by simp [cellsOf]), r5.wr_self W (by simp [cellsOf]), fun b el L hne r => r5.wr_other W (by simp [cellsOf]) r hne⟩
    by_cases hgood : ∃ v j, Cb 0 0 (l.drop p) = some (v, j) ∧ v ≤ most
    · obtain ⟨v, j, hu, hv⟩ := hgood
      rw [EV hu, if_pos hv]
      rcases k2 with ⟨v', j', hu', rfl, rfl, rfl⟩ | ⟨hno, _⟩
      · rw [hu] at hu'
        cases hu'
        obtain ⟨g, s1, s2, s3, s4, s5⟩ := fin false
        have c1 : iGt (v : Int) (most : Int) = false := by rw [BS]; simp; omega
        have c0 : iNe 0 0 = false := rfl
        have ld6 : load1 ⟨b5, 0, none⟩ g = .ok (.bool false) g := s4.load1 (off := 0) (by simp)
        have R4 := s5 b4 _ _ h45 r4
        have st := R4.storeR (n := 1) (off := 0) s2.wf h256' (v := .int .i64 ((p + j : Nat) : Int)) rfl (by simp [cellsOf]) rfl
        have wv : C2 .i64 (.int .u64 (v : Int)) (g.wr b4 0 (cellsOf (.int .i64 ((p + j : Nat) : Int)))) = .ok (.int .i64 (v : Int)) (g.wr b4 0 (cellsOf (.int .i64 ((p + j : Nat) : Int)))) := by rw [B0, BJ (by omega)]
        refine ⟨g.wr b4 0 (cellsOf (.int .i64 ((p + j : Nat) : Int))), ?_, R4.wr_ext s2 hb4 (by simp [cellsOf]), (R4.wr_next (by simp [cellsOf])).trans s3, R4.wr_self s2.wf (by simp [cellsOf]), R4.wr_other s2.wf (by simp [cellsOf]) s4 (fun h => h45 h.symm), fun b el L h4 h5 r => R4.wr_other s2.wf (by simp [cellsOf]) (s5 b el L h5 r) h4⟩
        rw [KT rfl]
        unfold d37
        unfold ptr at s1 ⊢
        simp only [AK, AM, Nat.succ_eq_add_one, Nat.zero_add, Nat.reduceAdd, sT, Nat.reduceLT, Nat.reduceEqDiff, if_true, if_false, reduceIte, gD, Ab, Am, ld5, ld1, ld4, Ah, AV, Ad, k1, BK, BP, BQ, Bd, AO, AN, c0, B4, cm, c1, Au, s1, ld6, st, wv, AZ, Ap]
      · rw [hu] at hno; cases hno
    · have hnx : nxV l most false p = (0, true, p) := by
        cases hu : Cb 0 0 (l.drop p) with
        | none => rw [FJ hu]
        | some vj =>
          obtain ⟨v, j⟩ := vj
          rw [EV hu, if_neg (fun hv => hgood ⟨v, j, hu, hv⟩)]
      rw [hnx]
      obtain ⟨g, s1, s2, s3, s4, s5⟩ := fin true
      have ld6 : load1 ⟨b5, 0, none⟩ g = .ok (.bool true) g := s4.load1 (off := 0) (by simp)
      refine ⟨g, ?_, s2, s3, s5 b4 _ _ h45 r4, s4, fun b el L _ h5 r => s5 b el L h5 r⟩
      rcases k2 with ⟨v', j', hu', rfl, rfl, rfl⟩ | ⟨hno, hC⟩
      · have hv : ¬ v' ≤ most := fun hv => hgood ⟨v', j', hu', hv⟩
        have c1 : iGt (v' : Int) (most : Int) = true := by rw [BS]; simp; omega
        have c0 : iNe 0 0 = false := rfl
        rw [KT rfl]
        unfold d37
        unfold ptr at s1 ⊢
        simp only [AK, AM, Nat.succ_eq_add_one, Nat.zero_add, Nat.reduceAdd, sT, Nat.reduceLT, Nat.reduceEqDiff, if_true, if_false, reduceIte, gD, Ab, Am, ld5, ld1, ld4, Ah, AV, Ad, k1, BK, BP, BQ, Bd, AO, AN, c0, B4, cm, c1, Au, s1, ld6, AZ, Ap]; rfl
      · have c0 : iNe C 0 = true := by rw [DB]; simpa using hC
        rw [KT rfl]
        unfold d37
        unfold ptr at s1 ⊢
        simp only [AK, AM, Nat.succ_eq_add_one, Nat.zero_add, Nat.reduceAdd, sT, Nat.reduceLT, Nat.reduceEqDiff, if_true, if_false, reduceIte, gD, Ab, Am, ld5, ld1, ld4, Ah, AV, Ad, k1, BK, BP, BQ, Bd, AO, AN, c0, Au, s1, ld6, AZ, Ap]; rfl
def qB : C := (cOp (AC 18) (AL iLt .i64 (AB 17) (AB 16))
(AP (AB 18)
(Ar (AX 1 (cOp (AC 21) (CN (AB 6) [(kV (.int .i64 1099511627776))])
(cOp (AC 22) (A4 .i64 (Ai .i64) (AB 8) (AB 21))
(cOp (AC 8) (AD (AB 22))
(cOp (AC 23) (AH (AB 5))
(cG (AB 23) false (AC 25) (AD (AB 8))
(cG (AB 23) false (AC 26) (AL iGt .i64 (AB 25) (kV (.int .i64 1099511627776)))
(cOp (AC 27) (AS (AB 23) (kV (.bool true)) (AB 26))
(AP (AB 27)
(cOp (AC 28) (A6 B3.zero [])
(cDo (AY 3 (AB 2) (AB 28))
(cOp (AC 3) (AD (kV (.int .i64 167)))
Ae)))
(cOp (AC 29) (AF 2 (AB 7))
(cOp (AC 30) (AH (AB 29))
(cOp (AC 32) (AU 1 (BE ty3.zero 1) [(0, 1, (AB 8))])
(cOp (AC 33) (Az 1 8 3 (AB 30) (AB 32))
(cOp (AC 34) (AF 2 (AB 7))
(cDo (AY 1 (AB 34) (AB 33))
Ac)))))))))))))))
(cOp (AC 35) (A4 .i64 (Ai .i64) (AB 17) (kV (.int .i64 1)))
(cOp (AC 17) (AD (AB 35))
Ac)))
(A7 0)))
def qE : C := (cOp (AC 36) (AH (AB 5))
(cG (AB 36) false (AC 38) (AH (AB 4))
(cG (AB 36) false (AC 39) (AH (AB 1))
(cG (AB 36) false (AC 40) (Af (AB 39))
(cG (AB 36) false (AC 41) (AL iNe .i64 (AB 38) (AB 40))
(cOp (AC 42) (AS (AB 36) (kV (.bool true)) (AB 41))
(cG (AB 42) false (AC 44) (Aa 3 (AB 7))
(cG (AB 42) false (AC 45) (AQ 9 [(AB 44)])
(cG (AB 42) false (AC 46) (B7 (AB 45))
(cOp (AC 47) (AS (AB 42) (kV (.bool true)) (AB 46))
(AP (AB 47)
(cOp (AC 48) (A6 B3.zero [])
(cDo (AY 3 (AB 2) (AB 48))
(cOp (AC 3) (AD (kV (.int .i64 167)))
Ae)))
(cOp (AC 49) (Aa 3 (AB 7))
(cDo (AY 3 (AB 2) (AB 49))
(cOp (AC 3) (AD (kV (.int .i64 0)))
Ae))))))))))))))
theorem CI : B3.zero = [.int .i64 0, .int .i64 0, .slice none 0 0] := by kernel_rfl
theorem C9 : CS .mt 0 [.int .i64 0, .int .i64 0, .slice none 0 0] = some BB := by kernel_rfl
theorem cE : CS .mt 0 [.int .i64 0] = some zt3 := by kernel_rfl
theorem cF : CS .mt 0 [.bool false] = some zt4 := by kernel_rfl
theorem F7 {k : IntKind} {n : Int} : known (.int k n) = true := rfl
theorem G6 {x y z u : Value} : over [x, y, z] 0 [u] = [u, y, z] := rfl
theorem G7 {x y z u : Value} : over [x, y, z] 1 [u] = [x, u, z] := rfl
theorem V9 {x y z u : Value} : over [x, y, z] 2 [u] = [x, y, u] := rfl
theorem Hp.Own.apart {h : Hp} {k en b : Nat} {v : Value} {xs : List Value} (o : h.Own k en v xs) (hb : b < k) : ¬ B2 v b := by
  rcases o with ⟨rfl, _⟩ | ⟨c, rfl, _, h3, _⟩
  · exact DS
  · exact Dp (by omega)
theorem Hp.Own.cells {h : Hp} {k en : Nat} {v : Value} {xs : List Value} (o : h.Own k en v xs) : cellsOf v = [v] ∧ Bl v = true := by
  rcases o with ⟨rfl, _⟩ | ⟨c, rfl, _⟩ <;> exact ⟨rfl, rfl⟩
def ZE (r : R) (w : Value) (h : Hp) : R := match r with
  | .ok v _ => .ok (.tuple ⟨[v, w]⟩) h
  | .no => .no
theorem Dh {e : Env} {h : Hp} {g g' : O} {n : Nat} : EC [.cN g n, .t g'] e h = ZE (FV n (g e) h) (g' e) h := by
  show (match (match DH (g e) with | .ok a => loadN n a h | .no => .no) with | .ok v _ => forceV v fun v => (match R.ok (g' e) h with | .ok v' _ => forceV v' fun v' => F5 h [v, v'] | .no => .no) | .no => .no) = _
  unfold ZE FV
  cases DH (g e) with
  | no => rfl
  | ok a =>
    simp only
    cases loadN n a h with
    | no => rfl
    | ok v h' => simp only [BF]; rfl
theorem FS {v w : Value} {h h' : Hp} : ZE (.ok v h') w h = .ok (.tuple ⟨[v, w]⟩) h := rfl
structure RdM (h0 h : Hp) (b1 b2 b4 b5 b7 k : Nat) (u : Value) (p : Nat) (bad : Bool) (f t : Int) (w : Value) (zs : List Int) : Prop where
  ext : h0.Ext h
  kn : k ≤ h.next
  r1 : h.Row b1 0 [u]
  r2 : h.Row b2 0 [.int .i64 0, .int .i64 0, .slice none 0 0]
  r4 : h.Row b4 0 [.int .i64 (p : Int)]
  r5 : h.Row b5 0 [.bool bad]
  r7 : h.Row b7 0 [.int .i64 f, .int .i64 t, w]
  own : h.Own k 3 w (ints .i64 zs)
structure Nums (h0 : Hp) (b1 b2 b4 b5 b7 k : Nat) : Prop where
  l1 : h0.next ≤ b1
  l12 : b1 < b2
  l24 : b2 < b4
  l45 : b4 < b5
  l57 : b5 < b7
  l7k : b7 < k
def E4 (e : Env) (b1 b2 b4 b5 b7 m : Nat) : Prop := AB 1 e = ptr b1 ∧ AB 2 e = ptr b2 ∧ AB 4 e = ptr b4 ∧ AB 5 e = ptr b5 ∧ AB 7 e = ptr b7 ∧ AB 6 e = .func (.func 37) ⟨[]⟩ ⟨[ptr b5, ptr b1, ptr b4]⟩ ∧ AB 16 e = .int .i64 (m : Int)
theorem QA {n : Nat} {h0 h : Hp} (W0 : h0.Wf) {u : Value} {l : List Nat} (V : h0.Vals u (l.map bv)) (hb : ∀ x ∈ l, x < 256) (hl : l.length ≤ 1000000) {b1 b2 b4 b5 b7 k p3 m : Nat} {b3 : Bool} {f t : Int} (N : Nums h0 b1 b2 b4 b5 b7 k) (hm : m ≤ 10000) (hbm : b3 = true → m = 0) (hp : p3 ≤ l.length)
    (D : RdM h0 h b1 b2 b4 b5 b7 k u p3 b3 f t (.slice none 0 0) []) {e : Env} (S : E4 e b1 b2 b4 b5 b7 m) (s8 : AB 8 e = .int .i64 0) (s17 : AB 17 e = .int .i64 0) :
    (∃ e' h' p w zs, Ao qB (call AG (n + 2)) e h = .exit 0 e' h' ∧ RdM h0 h' b1 b2 b4 b5 b7 k u p b3 f t w zs ∧ zs.length ≤ 10000 ∧ E4 e' b1 b2 b4 b5 b7 m ∧ (b3 = false → C0 m 0 (l.drop p3) = some (zs, l.drop p) ∧ p ≤ l.length)) ∨
    (∃ e' h', Ao qB (call AG (n + 2)) e h = .ret e' h' ∧ h0.Ext h' ∧ AB 2 e' = ptr b2 ∧ AB 3 e' = .int .i64 167 ∧ h'.Row b2 0 [.int .i64 0, .int .i64 0, .slice none 0 0] ∧ b3 = false ∧ C0 m 0 (l.drop p3) = none) := by
  obtain ⟨n1, n2, n3, n4, n5, n6⟩ := N
  refine Bo (I := fun i e' h' => ∃ p w zs last, RdM h0 h' b1 b2 b4 b5 b7 k u p b3 f t w zs ∧ zs.length = i ∧ i ≤ m ∧ E4 e' b1 b2 b4 b5 b7 m ∧ AB 8 e' = .int .i64 last ∧ 0 ≤ last ∧ last ≤ 1099511627776 ∧ AB 17 e' = .int .i64 (i : Int) ∧ p ≤ l.length ∧
      (b3 = false → C0 m 0 (l.drop p3) = (match C0 (m - i) last (l.drop p) with | some (xs, q) => some (zs ++ xs, q) | none => none)))
    (Q := fun x => (∃ e' h' p w zs, x = .exit 0 e' h' ∧ RdM h0 h' b1 b2 b4 b5 b7 k u p b3 f t w zs ∧ zs.length ≤ 10000 ∧ E4 e' b1 b2 b4 b5 b7 m ∧ (b3 = false → C0 m 0 (l.drop p3) = some (zs, l.drop p) ∧ p ≤ l.length)) ∨
      (∃ e' h', x = .ret e' h' ∧ h0.Ext h' ∧ AB 2 e' = ptr b2 ∧ AB 3 e' = .int .i64 167 ∧ h'.Row b2 0 [.int .i64 0, .int .i64 0, .slice none 0 0] ∧ b3 = false ∧ C0 m 0 (l.drop p3) = none)) m (by omega) (fun i e' h' ⟨p, w, zs, last, D', hz, hi, S', t8, hla, hlb, t17, hp', hrd⟩ => ?_)
    ⟨p3, _, [], 0, D, rfl, Nat.zero_le _, S, s8, by omega, by omega, s17, hp, fun _ => by
      rw [Nat.sub_zero]
      cases C0 m 0 (l.drop p3) with
      | none => rfl
      | some y => rfl⟩
  obtain ⟨S1, S2, S4, S5, S7, S6, S16⟩ := S'
  by_cases hlt : i < m
  · have hb3 : b3 = false := by
      cases b3 with
      | false => rfl
      | true => have := hbm rfl; omega
    subst hb3
    have hrd := hrd rfl
    rw [show m - i = (m - i - 1) + 1 by omega, Sr] at hrd
    obtain ⟨g, k1, k2⟩ := IC (n := n) W0 D'.ext V hb hl D'.r1 D'.r4 D'.r5 (by omega) (by omega) (by omega) (by omega) (by omega) hp' (most := 1099511627776) (Nat.le_refl _)
    obtain ⟨hle1, hle2, _, _⟩ := Ku hb (most := 1099511627776) (bad := false) hp'
    generalize nxV l 1099511627776 false p = s at k1 k2 hle1 hle2 hrd
    obtain ⟨v, bd, p'⟩ := s
    simp only at k1 hle1 hle2 hrd
    have k1 : call AG (n + 2) 37 [.int .i64 1099511627776, ptr b5, ptr b1, ptr b4] h' = .ok (.int .i64 (v : Int)) g := k1
    obtain ⟨x1, nx1, q4, q5, kp⟩ := k2
    have q5 : g.Row b5 0 [.bool bd] := q5
    have q4 : g.Row b4 0 [.int .i64 (p' : Int)] := q4
    have q1 := kp b1 _ _ (by omega) (by omega) D'.r1
    have q2 := kp b2 _ _ (by omega) (by omega) D'.r2
    have q7 := kp b7 _ _ (by omega) (by omega) D'.r7
    have qo : g.Own k 3 w (ints .i64 zs) := D'.own.keep fun b el L hbk r => kp b el L (fun hx => (D'.own.apart (b := b4) (by omega)) (hx ▸ hbk)) (fun hx => (D'.own.apart (b := b5) (by omega)) (hx ▸ hbk)) r
    have c1 : iLt (i : Int) (m : Int) = true := by rw [As]; simp; omega
    have a1 : Ci .i64 (.int .i64 last) (.int .i64 (v : Int)) g = .ok (.int .i64 (last + (v : Int))) g := by rw [Bc, JR (by omega) (by omega)]
    have ld5 : load1 ⟨b5, 0, none⟩ g = .ok (.bool bd) g := q5.load1 (off := 0) (by simp)
    by_cases hfail : bd = true ∨ 1099511627776 < last + (v : Int)
    · right
      rw [if_pos hfail] at hrd
      have h256 : 256 ≤ b2 := by have := W0.big; omega
      have st := q2.storeR (n := 3) (off := 0) x1.wf h256 (v := .agg ⟨[.int .i64 0, .int .i64 0, .slice none 0 0]⟩) rfl (by simp [Ax]) rfl
      rw [Ax] at st
      have w2 := q2.wr_self x1.wf (off := 0) (vs := [.int .i64 0, .int .i64 0, .slice none 0 0]) (by simp)
      have x2 := q2.wr_ext x1 (by omega) (off := 0) (vs := [.int .i64 0, .int .i64 0, .slice none 0 0]) (by simp)
      have hrun : ∃ e2, qB (call AG (n + 2)) e' h' = .ret e2 (g.wr b2 0 [.int .i64 0, .int .i64 0, .slice none 0 0]) ∧ AB 2 e2 = ptr b2 ∧ AB 3 e2 = .int .i64 167 := by
        unfold qB
        unfold ptr at S1 S2 S4 S5 S7 S6 k1 ⊢
        cases bd with
        | true =>
          simp only [sT, Nat.reduceLT, Nat.reduceEqDiff, if_true, if_false, reduceIte, gD, AO, AN, t17, S16, c1, Cc, S6, E6, AV, Ad, List.nil_append, List.cons_append, k1, Bb, t8, a1, Ab, S5, Am, ld5, Bg, CI, BU, Au, S2, st]
          exact ⟨_, rfl, by simp only [AE, Nat.reduceLT, Nat.reduceEqDiff, if_true, if_false, reduceIte]; exact S2, by simp [AE]⟩
        | false =>
          have c2 : iGt (last + (v : Int)) 1099511627776 = true := by
            rw [BS]
            rcases hfail with hfail | hfail
            · cases hfail
            · simpa using hfail
          simp only [sT, Nat.reduceLT, Nat.reduceEqDiff, if_true, if_false, reduceIte, gD, AO, AN, t17, S16, c1, Cc, S6, E6, AV, Ad, List.nil_append, List.cons_append, k1, Bb, t8, a1, Ab, S5, Am, ld5, c2, Bg, CI, BU, Au, S2, st]
          exact ⟨_, rfl, by simp only [AE, Nat.reduceLT, Nat.reduceEqDiff, if_true, if_false, reduceIte]; exact S2, by simp [AE]⟩
      obtain ⟨e2, r1, r2, r3⟩ := hrun
      rw [r1]
      exact ⟨rfl, .inr ⟨e2, _, rfl, x2, r2, r3, w2, rfl, hrd⟩⟩
    · left
      rw [if_neg hfail] at hrd
      have hbd : bd = false := by
        cases bd with
        | false => rfl
        | true => exact absurd (.inl rfl) hfail
      subst hbd
      have c2 : iGt (last + (v : Int)) 1099511627776 = false := by
        rw [BS, decide_eq_false]
        exact fun h => hfail (.inr h)
      have ld7 : load1 ⟨b7, 2, none⟩ g = .ok w g := q7.load1 (off := 2) (by simp)
      have hkn : k ≤ g.next := by rw [nx1]; exact D'.kn
      have os : ∀ e, AB 8 e = .int .i64 (last + (v : Int)) → AU 1 (BE ty3.zero 1) [(0, 1, AB 8)] (call AG (n + 2)) e g = .ok (.slice (some ⟨g.next, 0, none⟩) 1 1) (g.pushRow 0 [.int .i64 (last + (v : Int))]) := fun e he => by rw [Hz]; exact Cn x1.wf he rfl rfl
      obtain ⟨h2, v2, y1, y2, y3, y4, y5⟩ := Dt (eb := 8) (n := last + (v : Int)) (kd := .i64) x1 (by omega) hkn qo (by rw [BG]; omega)
      have y3 : h2.Own k 3 v2 (ints .i64 (zs ++ [last + (v : Int)])) := by
        unfold ints; rw [List.map_append]; exact y3
      obtain ⟨z7, a7⟩ := y5 b7 _ _ (qo.apart (by omega)) q7
      obtain ⟨z1, _⟩ := y5 b1 _ _ (qo.apart (by omega)) q1
      obtain ⟨z2, _⟩ := y5 b2 _ _ (qo.apart (by omega)) q2
      obtain ⟨z4, _⟩ := y5 b4 _ _ (qo.apart (by omega)) q4
      obtain ⟨z5, _⟩ := y5 b5 _ _ (qo.apart (by omega)) q5
      obtain ⟨hc1, hc2⟩ := y3.cells
      have h256 : 256 ≤ b7 := by have := W0.big; omega
      have st := z7.storeR (n := 1) (off := 2) y2.wf h256 (v := v2) (by rw [hc1]; rfl) (by rw [hc1]; simp) (by rw [hc1]; show (bif Bl v2 then true else false) = true; rw [hc2]; rfl)
      rw [hc1] at st
      have w7 := z7.wr_self y2.wf (off := 2) (vs := [v2]) (by simp)
      have x3 := z7.wr_ext y2 (by omega) (off := 2) (vs := [v2]) (by simp)
      have nx3 := z7.wr_next (off := 2) (vs := [v2]) (by simp)
      have ot : ∀ b el L, b ≠ b7 → h2.Row b el L → (h2.wr b7 2 [v2]).Row b el L := fun b el L hne r => z7.wr_other y2.wf (off := 2) (vs := [v2]) (by simp) r hne
      have a2 : Ci .i64 (.int .i64 (i : Int)) (.int .i64 1) (h2.wr b7 2 [v2]) = .ok (.int .i64 ((i + 1 : Nat) : Int)) (h2.wr b7 2 [v2]) := by
        have : (i : Int) + 1 = ((i + 1 : Nat) : Int) := by omega
        rw [Bc, this, BJ (by omega)]
      have hrun : ∃ e2, qB (call AG (n + 2)) e' h' = .norm e2 (h2.wr b7 2 [v2]) ∧ E4 e2 b1 b2 b4 b5 b7 m ∧ AB 8 e2 = .int .i64 (last + (v : Int)) ∧ AB 17 e2 = .int .i64 ((i + 1 : Nat) : Int) := by
        unfold qB E4
        unfold ptr at S1 S2 S4 S5 S7 S6 k1 ⊢
        simp only [sT, Nat.reduceLT, Nat.reduceEqDiff, if_true, if_false, reduceIte, gD, AO, AN, t17, S16, c1, Cc, S6, E6, AV, Ad, List.nil_append, List.cons_append, k1, Bb, t8, a1, Ab, S5, Am, ld5, c2, AW, S7, Aj, Nat.zero_add, ld7, os, Bv, y1, Au, st, a2]
        exact ⟨_, rfl, ⟨by simp only [AE, Nat.reduceLT, Nat.reduceEqDiff, if_true, if_false, reduceIte]; exact S1, by simp only [AE, Nat.reduceLT, Nat.reduceEqDiff, if_true, if_false, reduceIte]; exact S2, by simp only [AE, Nat.reduceLT, Nat.reduceEqDiff, if_true, if_false, reduceIte]; exact S4, by simp only [AE, Nat.reduceLT, Nat.reduceEqDiff, if_true, if_false, reduceIte]; exact S5, by simp only [AE, Nat.reduceLT, Nat.reduceEqDiff, if_true, if_false, reduceIte]; exact S7, by simp only [AE, Nat.reduceLT, Nat.reduceEqDiff, if_true, if_false, reduceIte]; exact S6, by simp only [AE, Nat.reduceLT, Nat.reduceEqDiff, if_true, if_false, reduceIte]; exact S16⟩, by simp [AE], by simp [AE]⟩
      obtain ⟨e2, r1, r2, r3, r4⟩ := hrun
      refine ⟨hlt, e2, _, r1, p', v2, zs ++ [last + (v : Int)], last + (v : Int), ⟨x3, by rw [nx3]; omega, ot b1 _ _ (by omega) z1, ot b2 _ _ (by omega) z2, ot b4 _ _ (by omega) z4, ot b5 _ _ (by omega) z5, w7, y3.keep fun b el L hbk r => ot b el L (fun hx => (y3.apart (b := b7) (by omega)) (hx ▸ hbk)) r⟩, ?_, hlt, r2, r3, by omega, ?_, r4, hle1, fun _ => ?_⟩
      · rw [List.length_append, List.length_singleton, hz]
      · have : ¬ 1099511627776 < last + (v : Int) := fun h => hfail (.inr h)
        omega
      · rw [hrd, show m - i - 1 = m - (i + 1) by omega]
        cases C0 (m - (i + 1)) (last + (v : Int)) (l.drop p') with
        | none => rfl
        | some y =>
          obtain ⟨ys, q⟩ := y
          show some (zs ++ (last + (v : Int)) :: ys, q) = some (zs ++ [last + (v : Int)] ++ ys, q)
          rw [List.append_assoc]; rfl
  · right
    have c1 : iLt (i : Int) (m : Int) = false := by rw [As]; simp; omega
    have hrun : ∃ e2, qB (call AG (n + 2)) e' h' = .exit 0 e2 h' ∧ E4 e2 b1 b2 b4 b5 b7 m := by
      unfold qB E4
      simp only [sT, Nat.reduceLT, Nat.reduceEqDiff, if_true, if_false, reduceIte, AO, AN, t17, S16, c1]
      exact ⟨_, rfl, by simp only [AE, Nat.reduceLT, Nat.reduceEqDiff, if_true, if_false, reduceIte]; exact S1, by simp only [AE, Nat.reduceLT, Nat.reduceEqDiff, if_true, if_false, reduceIte]; exact S2, by simp only [AE, Nat.reduceLT, Nat.reduceEqDiff, if_true, if_false, reduceIte]; exact S4, by simp only [AE, Nat.reduceLT, Nat.reduceEqDiff, if_true, if_false, reduceIte]; exact S5, by simp only [AE, Nat.reduceLT, Nat.reduceEqDiff, if_true, if_false, reduceIte]; exact S7, by simp only [AE, Nat.reduceLT, Nat.reduceEqDiff, if_true, if_false, reduceIte]; exact S6, by simp only [AE, Nat.reduceLT, Nat.reduceEqDiff, if_true, if_false, reduceIte]; exact S16⟩
    obtain ⟨e2, r1, r2⟩ := hrun
    rw [r1]
    refine ⟨rfl, .inl ⟨e2, h', p, w, zs, rfl, D', by omega, r2, fun h3 => ⟨?_, hp'⟩⟩⟩
    have := hrd h3
    rw [show m - i = 0 by omega] at this
    rw [this]
    show some (zs ++ [], l.drop p) = _
    rw [List.append_nil]
def qS : C := (Ar (AX 0 (Ao (cOp (AC 18) (AL iLt .i64 (AB 17) (AB 16))
(AP (AB 18)
(Ar (AX 1 (cOp (AC 21) (CN (AB 6) [(kV (.int .i64 1099511627776))])
(cOp (AC 22) (A4 .i64 (Ai .i64) (AB 8) (AB 21))
(cOp (AC 8) (AD (AB 22))
(cOp (AC 23) (AH (AB 5))
(cG (AB 23) false (AC 25) (AD (AB 8))
(cG (AB 23) false (AC 26) (AL iGt .i64 (AB 25) (kV (.int .i64 1099511627776)))
(cOp (AC 27) (AS (AB 23) (kV (.bool true)) (AB 26))
(AP (AB 27)
(cOp (AC 28) (A6 B3.zero [])
(cDo (AY 3 (AB 2) (AB 28))
(cOp (AC 3) (AD (kV (.int .i64 167)))
Ae)))
(cOp (AC 29) (AF 2 (AB 7))
(cOp (AC 30) (AH (AB 29))
(cOp (AC 32) (AU 1 (BE ty3.zero 1) [(0, 1, (AB 8))])
(cOp (AC 33) (Az 1 8 3 (AB 30) (AB 32))
(cOp (AC 34) (AF 2 (AB 7))
(cDo (AY 1 (AB 34) (AB 33))
Ac)))))))))))))))
(cOp (AC 35) (A4 .i64 (Ai .i64) (AB 17) (kV (.int .i64 1)))
(cOp (AC 17) (AD (AB 35))
Ac)))
(A7 0)))))
(cOp (AC 36) (AH (AB 5))
(cG (AB 36) false (AC 38) (AH (AB 4))
(cG (AB 36) false (AC 39) (AH (AB 1))
(cG (AB 36) false (AC 40) (Af (AB 39))
(cG (AB 36) false (AC 41) (AL iNe .i64 (AB 38) (AB 40))
(cOp (AC 42) (AS (AB 36) (kV (.bool true)) (AB 41))
(cG (AB 42) false (AC 44) (Aa 3 (AB 7))
(cG (AB 42) false (AC 45) (AQ 9 [(AB 44)])
(cG (AB 42) false (AC 46) (B7 (AB 45))
(cOp (AC 47) (AS (AB 42) (kV (.bool true)) (AB 46))
(AP (AB 47)
(cOp (AC 48) (A6 B3.zero [])
(cDo (AY 3 (AB 2) (AB 48))
(cOp (AC 3) (AD (kV (.int .i64 167)))
Ae)))
(cOp (AC 49) (Aa 3 (AB 7))
(cDo (AY 3 (AB 2) (AB 49))
(cOp (AC 3) (AD (kV (.int .i64 0)))
Ae)))))))))))))))
theorem MT : qS = Ar (AX 0 (Ao qB)) qE := rfl
def Ty : C := (cOp (AC 1) (Bu (AB 0))
(cOp (AC 2) (At 3 BB)
(cOp (AC 3) (AD (kV (.int .i64 0)))
(cOp (AC 4) (At 1 zt3)
(cOp (AC 5) (At 1 zt4)
(cDo (AY 1 (AB 4) (kV (.int .i64 0)))
(cDo (AY 1 (AB 5) (kV (.bool false)))
(cOp (AC 9) (GO (.func 37) [] [(AB 5), (AB 1), (AB 4)])
(cOp (AC 6) (AD (AB 9))
(cOp (AC 11) (CN (AB 6) [(kV (.int .i64 256))])
(cOp (AC 13) (CN (AB 6) [(kV (.int .i64 256))])
(cOp (AC 14) (A6 B3.zero [(0, 1, (AB 11)), (1, 1, (AB 13))])
(cOp (AC 7) (At 3 BB)
(cDo (AY 3 (AB 7) (AB 14))
(cOp (AC 8) (AD (kV (.int .i64 0)))
(cOp (AC 16) (CN (AB 6) [(kV (.int .i64 10000))])
(cOp (AC 17) (AD (kV (.int .i64 0)))
qS)))))))))))))))))
def d16 : C := Ty
theorem IW {n : Nat} {args : List Value} {h : Hp} (hl : Nat.ble (Bk args) 320 = true) : call AG (Nat.succ n) 16 args h = Bs [.cN (AB 2) 3, .t (AB 3)] (d16 (call AG n) (Ak e0 0 args) h) := by
  have hb : AG.get 16 = some b16 := by kernel_rfl
  rw [BM hb]
  have hd : b16 = ⟨[.cN (AB 2) 3, .t (AB 3)], d16⟩ := by kernel_rfl
  rw [hd, BC hl]
theorem Id : d16 = Ty := rfl
def Kt : Value := .tuple ⟨[.agg ⟨[.int .i64 0, .int .i64 0, .slice none 0 0]⟩, .int .i64 167]⟩
theorem Ou {n : Nat} {h : Hp} (W : h.Wf) {u : Value} {l : List Nat} (V : h.Vals u (l.map bv)) (hb : ∀ x ∈ l, x < 256) (hl : l.length ≤ 1000000) (hk : known u = true) (hc : cellsOf u = [u]) :
    (∃ f t zs h' w, EE l = some (f, t, zs) ∧ call AG (n + 4) 16 [u] h = .ok (.tuple ⟨[mvV f t w, .int .i64 0]⟩) h' ∧ h.Ext h' ∧ h'.Vals w (ints .i64 zs)) ∨
    (EE l = none ∧ ∃ h', call AG (n + 4) 16 [u] h = .ok Kt h' ∧ h.Ext h') := by
  have x1 := (Hp.Ext.refl W).pushRow 0 [u]
  have R1 := Hp.Row.new W 0 [u]
  have n1 : (h.pushRow 0 [u]).next = h.next + 1 := rfl
  have f1 : ∀ e : Env, AB 0 e = u → Bu (AB 0) (call AG (n + 3)) e h = .ok (.pointer (some ⟨h.next, 0, none⟩)) (h.pushRow 0 [u]) := fun e he => by rw [DF, he, DD W hk, hc]
  generalize h.pushRow 0 [u] = h1 at x1 R1 n1 f1
  have x2 := x1.push (.cells BB 3 0)
  have y2 := (Hp.Ext.refl x1.wf).push (.cells BB 3 0)
  have R2 : (h1.push (.cells BB 3 0)).Row h1.next 0 [.int .i64 0, .int .i64 0, .slice none 0 0] := Hp.Row.alloc x1.wf C9 rfl
  have f2 := fun (e : Env) => Bz (F := call AG (n + 3)) (e := e) (n := 3) (t := BB) x1.wf
  have n2 : (h1.push (.cells BB 3 0)).next = h1.next + 1 := rfl
  generalize h1.push (.cells BB 3 0) = h2 at x2 y2 R2 f2 n2
  have x3 := x2.push (.cells zt3 1 0)
  have y3 := (Hp.Ext.refl x2.wf).push (.cells zt3 1 0)
  have R4 : (h2.push (.cells zt3 1 0)).Row h2.next 0 [.int .i64 0] := Hp.Row.alloc x2.wf cE rfl
  have f4 := fun (e : Env) => Bz (F := call AG (n + 3)) (e := e) (n := 1) (t := zt3) x2.wf
  have n3 : (h2.push (.cells zt3 1 0)).next = h2.next + 1 := rfl
  generalize h2.push (.cells zt3 1 0) = h3 at x3 y3 R4 f4 n3
  have x4 := x3.push (.cells zt4 1 0)
  have y4 := (Hp.Ext.refl x3.wf).push (.cells zt4 1 0)
  have R5 : (h3.push (.cells zt4 1 0)).Row h3.next 0 [.bool false] := Hp.Row.alloc x3.wf cF rfl
  have f5 := fun (e : Env) => Bz (F := call AG (n + 3)) (e := e) (n := 1) (t := zt4) x3.wf
  have n4 : (h3.push (.cells zt4 1 0)).next = h3.next + 1 := rfl
  have R4 := R4.ext x3.wf y4
  have R1 := ((R1.ext x1.wf y2).ext x2.wf y3).ext x3.wf y4
  have R2 := (R2.ext x2.wf y3).ext x3.wf y4
  generalize h3.push (.cells zt4 1 0) = h4 at x4 y4 R5 f5 n4 R4 R1 R2
  have big := W.big
  have st4 := R4.storeR (n := 1) (off := 0) x4.wf (by omega) (v := .int .i64 0) rfl (by simp [cellsOf]) rfl
  have x5 := R4.wr_ext x4 (by omega) (off := 0) (vs := cellsOf (.int .i64 0)) (by simp [cellsOf])
  have n5 := R4.wr_next (off := 0) (vs := cellsOf (.int .i64 0)) (by simp [cellsOf])
  have o5 : ∀ b el L, b ≠ h2.next → h4.Row b el L → (h4.wr h2.next 0 (cellsOf (.int .i64 0))).Row b el L := fun b el L hne r => R4.wr_other x4.wf (by simp [cellsOf]) r hne
  have Q4 := R4.wr_self x4.wf (off := 0) (vs := cellsOf (.int .i64 0)) (by simp [cellsOf])
  have Q1 := o5 _ _ _ (by omega) R1
  have Q2 := o5 _ _ _ (by omega) R2
  have Q5 := o5 _ _ _ (by omega) R5
  generalize h4.wr h2.next 0 (cellsOf (.int .i64 0)) = h5 at st4 x5 n5 Q4 Q1 Q2 Q5
  have Q4 : h5.Row h2.next 0 [.int .i64 ((0 : Nat) : Int)] := Q4
  have st5 := Q5.storeR (n := 1) (off := 0) x5.wf (by omega) (v := .bool false) rfl (by simp [cellsOf]) rfl
  have x6 := Q5.wr_ext x5 (by omega) (off := 0) (vs := cellsOf (.bool false)) (by simp [cellsOf])
  have n6 := Q5.wr_next (off := 0) (vs := cellsOf (.bool false)) (by simp [cellsOf])
  have o6 : ∀ b el L, b ≠ h3.next → h5.Row b el L → (h5.wr h3.next 0 (cellsOf (.bool false))).Row b el L := fun b el L hne r => Q5.wr_other x5.wf (by simp [cellsOf]) r hne
  have P5 := Q5.wr_self x5.wf (off := 0) (vs := cellsOf (.bool false)) (by simp [cellsOf])
  have P1 := o6 _ _ _ (by omega) Q1
  have P2 := o6 _ _ _ (by omega) Q2
  have P4 := o6 _ _ _ (by omega) Q4
  generalize h5.wr h3.next 0 (cellsOf (.bool false)) = h6 at st5 x6 n6 P5 P1 P2 P4
  have P5 : h6.Row h3.next 0 [.bool false] := P5
  obtain ⟨g1, k1, A1⟩ := IC (n := n + 1) W x6 V hb hl P1 P4 P5 (by omega) (by omega) (by omega) (by omega) (by omega) (Nat.zero_le _) (most := 256) (by omega)
  have e1 := Ku hb (most := 256) (bad := false) (Nat.zero_le l.length)
  generalize hs1 : nxV l 256 false 0 = s1 at k1 A1 e1
  have P1 := A1.keep _ _ _ (by omega) (by omega) P1
  have P2 := A1.keep _ _ _ (by omega) (by omega) P2
  obtain ⟨g2, k2, A2⟩ := IC (n := n + 1) W A1.ext V hb hl P1 A1.r4 A1.r5 (by omega) (by omega) (by omega) (by omega) (by omega) e1.1 (most := 256) (by omega)
  have e2 := Ku hb (most := 256) (bad := s1.2.1) e1.1
  generalize hs2 : nxV l 256 s1.2.1 s1.2.2 = s2 at k2 A2 e2
  have P1 := A2.keep _ _ _ (by omega) (by omega) P1
  have P2 := A2.keep _ _ _ (by omega) (by omega) P2
  have m1 := A1.next
  have m2 := A2.next
  have x7 := A2.ext.push (.cells BB 3 0)
  have y7 := (Hp.Ext.refl A2.ext.wf).push (.cells BB 3 0)
  have R7 : (g2.push (.cells BB 3 0)).Row g2.next 0 [.int .i64 0, .int .i64 0, .slice none 0 0] := Hp.Row.alloc A2.ext.wf C9 rfl
  have f7 := fun (e : Env) => Bz (F := call AG (n + 3)) (e := e) (n := 3) (t := BB) A2.ext.wf
  have n7 : (g2.push (.cells BB 3 0)).next = g2.next + 1 := rfl
  have P1 := P1.ext A2.ext.wf y7
  have P2 := P2.ext A2.ext.wf y7
  have P4 := A2.r4.ext A2.ext.wf y7
  have P5 := A2.r5.ext A2.ext.wf y7
  generalize g2.push (.cells BB 3 0) = g3 at x7 y7 R7 f7 n7 P1 P2 P4 P5
  have st7 := R7.storeR (n := 3) (off := 0) x7.wf (by omega) (v := .agg ⟨[.int .i64 (s1.1 : Int), .int .i64 (s2.1 : Int), .slice none 0 0]⟩) rfl (by simp [Ax]) rfl
  rw [Ax] at st7
  have o8 : ∀ b el L, b ≠ g2.next → g3.Row b el L → (g3.wr g2.next 0 [.int .i64 (s1.1 : Int), .int .i64 (s2.1 : Int), .slice none 0 0]).Row b el L := fun b el L hne r => R7.wr_other x7.wf (by simp) r hne
  have P7 := R7.wr_self x7.wf (off := 0) (vs := [.int .i64 (s1.1 : Int), .int .i64 (s2.1 : Int), .slice none 0 0]) (by simp)
  have x8 := R7.wr_ext x7 (by omega) (off := 0) (vs := [.int .i64 (s1.1 : Int), .int .i64 (s2.1 : Int), .slice none 0 0]) (by simp)
  have n8 := R7.wr_next (off := 0) (vs := [.int .i64 (s1.1 : Int), .int .i64 (s2.1 : Int), .slice none 0 0]) (by simp)
  have P1 := o8 _ _ _ (by omega) P1
  have P2 := o8 _ _ _ (by omega) P2
  have P4 := o8 _ _ _ (by omega) P4
  have P5 := o8 _ _ _ (by omega) P5
  generalize g3.wr g2.next 0 [.int .i64 (s1.1 : Int), .int .i64 (s2.1 : Int), .slice none 0 0] = g4 at st7 P7 x8 n8 P1 P2 P4 P5
  have P7 : g4.Row g2.next 0 [.int .i64 (s1.1 : Int), .int .i64 (s2.1 : Int), .slice none 0 0] := P7
  obtain ⟨g5, k3, A3⟩ := IC (n := n + 1) W x8 V hb hl P1 P4 P5 (by omega) (by omega) (by omega) (by omega) (by omega) e2.1 (most := 10000) (by omega)
  have e3 := Ku hb (most := 10000) (bad := s2.2.1) e2.1
  have hrA := Sq l s1 s2 _ hs1.symm hs2.symm rfl
  generalize nxV l 10000 s2.2.1 s2.2.2 = s3 at k3 A3 e3 hrA
  have m3 := A3.next
  have P1 := A3.keep _ _ _ (by omega) (by omega) P1
  have P2 := A3.keep _ _ _ (by omega) (by omega) P2
  have P7 := A3.keep _ _ _ (by omega) (by omega) P7
  have D : RdM h g5 h.next h1.next h2.next h3.next g2.next g5.next u s3.2.2 s3.2.1 (s1.1 : Int) (s2.1 : Int) (.slice none 0 0) [] := ⟨A3.ext, Nat.le_refl _, P1, P2, A3.r4, A3.r5, P7, .inl ⟨rfl, rfl⟩⟩
  have Nm : Nums h h.next h1.next h2.next h3.next g2.next g5.next := ⟨Nat.le_refl _, by omega, by omega, by omega, by omega, by omega⟩
  have pre : ∃ e, Ty (call AG (n + 3)) (Ak e0 0 [u]) h = qS (call AG (n + 3)) e g5 ∧ E4 e h.next h1.next h2.next h3.next g2.next s3.1 ∧ AB 8 e = .int .i64 0 ∧ AB 17 e = .int .i64 0 := by
    unfold Ty E4
    unfold ptr at k1 k2 k3 ⊢
    have k1 : call AG (n + 3) 37 [.int .i64 256, .pointer (some ⟨h3.next, 0, none⟩), .pointer (some ⟨h.next, 0, none⟩), .pointer (some ⟨h2.next, 0, none⟩)] h6 = .ok (.int .i64 (s1.1 : Int)) g1 := k1
    have k2 : call AG (n + 3) 37 [.int .i64 256, .pointer (some ⟨h3.next, 0, none⟩), .pointer (some ⟨h.next, 0, none⟩), .pointer (some ⟨h2.next, 0, none⟩)] g1 = .ok (.int .i64 (s2.1 : Int)) g2 := k2
    have k3 : call AG (n + 3) 37 [.int .i64 10000, .pointer (some ⟨h3.next, 0, none⟩), .pointer (some ⟨h.next, 0, none⟩), .pointer (some ⟨h2.next, 0, none⟩)] g4 = .ok (.int .i64 (s3.1 : Int)) g5 := k3
    simp only [AK, AM, Nat.succ_eq_add_one, Nat.zero_add, Nat.reduceAdd, BX, D9, BZ, EB, A5, Br, AE, Nat.reduceLT, Nat.reduceEqDiff, if_true, if_false, reduceIte, f1, f2, f4, f5, Au, st4, st5, Ft, AV, Ad, Cc, E6, List.nil_append, List.cons_append, k1, k2, Bg, CI, CV, BU, F7, De, List.length_cons, List.length_nil, Nat.reduceLeDiff, G6, G7, f7, st7, k3]
    exact ⟨_, rfl, ⟨by simp [AE], by simp [AE], by simp [AE], by simp [AE], by simp [AE], by simp [AE], by simp [AE]⟩, by simp [AE], by simp [AE]⟩
  obtain ⟨e, p1, S, p8, p17⟩ := pre
  have L := QA (n := n + 1) W V hb hl Nm e3.2.1 (fun h3 => e3.2.2.2 h3) e3.1 D S p8 p17
  rcases L with ⟨e', h', p, w, zs, q1, D', hz, S', hrd⟩ | ⟨e', h', q1, q2, q3, q4, q5, q6, q7⟩
  · obtain ⟨S1, S2, S4, S5, S7, S6, S16⟩ := S'
    have ld5 : load1 ⟨h3.next, 0, none⟩ h' = .ok (.bool s3.2.1) h' := D'.r5.load1 (off := 0) (by simp)
    have ld4 : load1 ⟨h2.next, 0, none⟩ h' = .ok (.int .i64 (p : Int)) h' := D'.r4.load1 (off := 0) (by simp)
    have ld1 : load1 ⟨h.next, 0, none⟩ h' = .ok u h' := D'.r1.load1 (off := 0) (by simp)
    have ld7 : loadN 3 ⟨g2.next, 0, none⟩ h' = .ok (mvV (s1.1 : Int) (s2.1 : Int) w) h' := D'.r7.loadN (by simp)
    have V' := V.ext W D'.ext
    have Vl : Ca u h' = .ok (.int .i64 (l.length : Int)) h' := by have := V'.len; rwa [List.length_map] at this
    have bad : ∀ g : Hp, h.Ext g → g.Row h1.next 0 [.int .i64 0, .int .i64 0, .slice none 0 0] → ∃ g', storeR 3 (ptr h1.next) (.agg ⟨[.int .i64 0, .int .i64 0, .slice none 0 0]⟩) g = .ok noRes g' ∧ h.Ext g' ∧ loadN 3 ⟨h1.next, 0, none⟩ g' = .ok (.agg ⟨[.int .i64 0, .int .i64 0, .slice none 0 0]⟩) g' := fun g xg rg => by
      have st := rg.storeR (n := 3) (off := 0) xg.wf (by omega) (v := .agg ⟨[.int .i64 0, .int .i64 0, .slice none 0 0]⟩) rfl (by simp [Ax]) rfl
      rw [Ax] at st
      have r := rg.wr_self xg.wf (off := 0) (vs := [.int .i64 0, .int .i64 0, .slice none 0 0]) (by simp)
      exact ⟨_, st, rg.wr_ext xg (by omega) (by simp), r.loadN (by simp [over])⟩
    unfold ptr at S1 S2 S4 S5 S7 bad
    cases hb3 : s3.2.1 with
    | true =>
      right
      rw [hb3] at ld5 hrA
      rw [if_pos rfl] at hrA
      obtain ⟨g', c1, c2, c3⟩ := bad h' D'.ext D'.r2
      refine ⟨by unfold EE; rw [hrA], g', ?_, c2⟩
      rw [IW rfl, Id, p1, MT]
      simp only [BI, Aq, q1, BA, BH]
      unfold qE Kt
      simp only [sT, Nat.reduceLT, Nat.reduceEqDiff, if_true, if_false, reduceIte, gD, Ab, S5, Am, ld5, Bg, CI, BU, Au, S2, c1, AZ, Dh, Ay, Aw, c3, FS]
    | false =>
      rw [hb3] at ld5 hrA
      rw [if_neg (by decide)] at hrA
      obtain ⟨r1, r2⟩ := hrd hb3
      rw [r1] at hrA
      simp only at hrA
      by_cases hend : p = l.length
      · have c0 : iNe (p : Int) (l.length : Int) = false := by rw [DB]; simp; omega
        have hdr : l.drop p = [] := List.drop_of_length_le (by omega)
        rw [hdr] at hrA
        have kr := EZ (n := n + 1) D'.ext.wf D'.own.vals (by omega) (f := (s1.1 : Int)) (t := (s2.1 : Int))
        have xr := DP D'.ext.wf (f := (s1.1 : Int)) (t := (s2.1 : Int)) (u := w)
        have R2' := D'.r2.ext D'.ext.wf xr
        have R7' := D'.r7.ext D'.ext.wf xr
        have W' := D'.own.vals.ext D'.ext.wf xr
        have ow := D'.own.cells
        have xx := D'.ext.trans xr
        generalize h'.pushRow 0 [.int .i64 (s1.1 : Int), .int .i64 (s2.1 : Int), w] = g6 at kr xr R2' R7' W' xx
        cases hR : Bq (s1.1 : Int) (s2.1 : Int) zs with
        | true =>
          left
          rw [hR] at kr
          have ld7' : loadN 3 ⟨g2.next, 0, none⟩ g6 = .ok (mvV (s1.1 : Int) (s2.1 : Int) w) g6 := R7'.loadN (by simp)
          have st := R2'.storeR (n := 3) (off := 0) xx.wf (by omega) (v := mvV (s1.1 : Int) (s2.1 : Int) w) rfl (by simp [mvV, Ax]) (by show (bif Bl w then true else false) = true; rw [ow.2]; rfl)
          have rs := R2'.wr_self xx.wf (off := 0) (vs := cellsOf (mvV (s1.1 : Int) (s2.1 : Int) w)) (by simp [mvV, Ax])
          have xs := R2'.wr_ext xx (by omega) (off := 0) (vs := cellsOf (mvV (s1.1 : Int) (s2.1 : Int) w)) (by simp [mvV, Ax])
          have ys : ∀ b el L, b ≠ h1.next → g6.Row b el L → (g6.wr h1.next 0 (cellsOf (mvV (s1.1 : Int) (s2.1 : Int) w))).Row b el L := fun b el L hne r => R2'.wr_other xx.wf (off := 0) (vs := cellsOf (mvV (s1.1 : Int) (s2.1 : Int) w)) (by simp [mvV, Ax]) r hne
          have lr : loadN 3 ⟨h1.next, 0, none⟩ (g6.wr h1.next 0 (cellsOf (mvV (s1.1 : Int) (s2.1 : Int) w))) = .ok (mvV (s1.1 : Int) (s2.1 : Int) w) _ := rs.loadN (by simp [over, mvV, Ax])
          have own6 : g6.Own g5.next 3 w (ints .i64 zs) := D'.own.ext D'.ext.wf xr
          refine ⟨(s1.1 : Int), (s2.1 : Int), zs, _, w, ?_, ?_, xs, (own6.keep fun b el L hbk r => ys b el L (fun hx => (own6.apart (b := h1.next) (by omega)) (hx ▸ hbk)) r).vals⟩
          · unfold EE
            rw [hrA]
            simp only
            rw [if_pos hR]
          · rw [IW rfl, Id, p1, MT]
            simp only [BI, Aq, q1, BA, BH]
            unfold qE
            simp only [sT, Nat.reduceLT, Nat.reduceEqDiff, if_true, if_false, reduceIte, gD, Ab, S5, Am, ld5, S4, ld4, S1, ld1, Al, Vl, AO, AN, c0, Ay, S7, Aw, ld7, Ah, AV, Ad, kr, Bf, Be, Bool.not_true, ld7', Au, S2, st, AZ, Dh, lr, FS]
        | false =>
          right
          rw [hR] at kr
          obtain ⟨g', c1, c2, c3⟩ := bad g6 xx R2'
          refine ⟨?_, g', ?_, c2⟩
          · unfold EE
            rw [hrA]
            simp only
            rw [if_neg (by rw [hR]; decide)]
          · rw [IW rfl, Id, p1, MT]
            simp only [BI, Aq, q1, BA, BH]
            unfold qE Kt
            simp only [sT, Nat.reduceLT, Nat.reduceEqDiff, if_true, if_false, reduceIte, gD, Ab, S5, Am, ld5, S4, ld4, S1, ld1, Al, Vl, AO, AN, c0, Ay, S7, Aw, ld7, Ah, AV, Ad, kr, Bf, Be, Bool.not_false, Bg, CI, BU, Au, S2, c1, AZ, Dh, c3, FS]
      · right
        have c0 : iNe (p : Int) (l.length : Int) = true := by rw [DB]; simp; omega
        have hdr : l.drop p = l.getD p 0 :: l.drop (p + 1) := by
          have : p < l.length := by omega
          rw [List.drop_eq_getElem_cons this, List.getD_eq_getElem?_getD, List.getElem?_eq_getElem this]; rfl
        rw [hdr] at hrA
        obtain ⟨g', c1, c2, c3⟩ := bad h' D'.ext D'.r2
        refine ⟨by unfold EE; rw [hrA], g', ?_, c2⟩
        rw [IW rfl, Id, p1, MT]
        simp only [BI, Aq, q1, BA, BH]
        unfold qE Kt
        simp only [sT, Nat.reduceLT, Nat.reduceEqDiff, if_true, if_false, reduceIte, gD, Ab, S5, Am, ld5, S4, ld4, S1, ld1, Al, Vl, AO, AN, c0, Bg, CI, BU, Au, S2, c1, AZ, Dh, Ay, Aw, c3, FS]
  · right
    rw [q6] at hrA
    rw [if_neg (by decide), q7] at hrA
    have lr : loadN 3 ⟨h1.next, 0, none⟩ h' = .ok (.agg ⟨[.int .i64 0, .int .i64 0, .slice none 0 0]⟩) h' := q5.loadN (by simp)
    refine ⟨by unfold EE; rw [hrA], h', ?_, q2⟩
    rw [IW rfl, Id, p1, MT]
    unfold ptr at q3
    unfold Kt
    simp only [BI, Aq, q1, BL, Bw, AZ, Dh, q3, q4, Aw, lr, FS]
end
end Go.Proofs.Ytkafejncffinmaa
set_option linter.unusedVariables false
set_option linter.unusedSimpArgs false
namespace Go.Proofs.Ytkafejncffinmaa
noncomputable section
open Go
set_option maxRecDepth 100000
def Fh : Nat → Int → List Nat → Option (List Int × List Nat)
  | 0, _, r => some ([], r)
  | k + 1, last, r => match Cb 0 0 r with
    | none => none
    | some (n, j) => if n ≤ 1099511627776 then (match Fh k (last + n) (r.drop j) with
      | some (xs, q) => some ((last + n) :: xs, q)
      | none => none) else none
def HC (l : List Nat) : Option (Int × Int × List Int × List Nat) := match Cb 0 0 l with
  | none => none
  | some (f, j) => if f ≤ 256 then (match Cb 0 0 (l.drop j) with
    | none => none
    | some (t, j2) => if t ≤ 256 then (match Cb 0 0 (l.drop (j + j2)) with
      | none => none
      | some (m, j3) => if m ≤ 10000 then (match Fh m 0 (l.drop (j + j2 + j3)) with
        | none => none
        | some (xs, q) => some ((f : Int), (t : Int), xs, q)) else none) else none) else none
theorem Ov : ∀ (k : Nat) (last : Int) (l : List Nat) (x : List Int × List Nat), C0 k last l = some x → Fh k last l = some x
  | 0, _, _, _, h => h
  | k + 1, last, l, x, h => by
    unfold C0 at h
    unfold Fh
    cases hu : Cb 0 0 l with
    | none => rw [hu] at h; cases h
    | some vj =>
      obtain ⟨n, j⟩ := vj
      rw [hu] at h
      simp only at h ⊢
      by_cases hn : n ≤ 1099511627776 ∧ last + n ≤ 1099511627776
      · rw [if_pos hn] at h
        rw [if_pos hn.1]
        cases hr : C0 k (last + n) (l.drop j) with
        | none => rw [hr] at h; cases h
        | some y =>
          rw [hr] at h
          rw [Ov k (last + n) (l.drop j) y hr]
          exact h
      · rw [if_neg hn] at h; cases h
theorem WG {l : List Nat} {x : Int × Int × List Int × List Nat} (h : HB l = some x) : HC l = some x := by
  unfold HB at h
  unfold HC
  cases h1 : Cb 0 0 l with
  | none => rw [h1] at h; cases h
  | some a =>
    obtain ⟨f, j⟩ := a
    rw [h1] at h
    simp only at h ⊢
    by_cases hf : f ≤ 256
    · rw [if_pos hf] at h ⊢
      cases h2 : Cb 0 0 (l.drop j) with
      | none => rw [h2] at h; cases h
      | some b =>
        obtain ⟨t, j2⟩ := b
        rw [h2] at h
        simp only [List.drop_drop] at h ⊢
        by_cases ht : t ≤ 256
        · rw [if_pos ht] at h ⊢
          cases h3 : Cb 0 0 (l.drop (j + j2)) with
          | none => rw [h3] at h; cases h
          | some c =>
            obtain ⟨m, j3⟩ := c
            rw [h3] at h
            simp only at h ⊢
            by_cases hm : m ≤ 10000
            · rw [if_pos hm] at h ⊢
              cases h4 : C0 m 0 (l.drop (j + j2 + j3)) with
              | none => rw [h4] at h; cases h
              | some y => rw [h4] at h; rw [Ov _ _ _ _ h4]; exact h
            · rw [if_neg hm] at h; cases h
        · rw [if_neg ht] at h; cases h
    · rw [if_neg hf] at h; cases h
theorem St {f t : Int} {zs : List Int} (h : Bq f t zs = true) : HC (Cj f t zs) = some (f, t, zs, []) := by
  have := J8 h []
  rw [List.append_nil] at this
  exact WG this
theorem D5 {l : List Nat} (hb : ∀ x ∈ l, x < 256) (h : ∀ f t zs, HC l = some (f, t, zs, []) → Bq f t zs = true → Cj f t zs = l → False) : EE l = none := by
  cases hr : EE l with
  | none => rfl
  | some x =>
    obtain ⟨f, t, zs⟩ := x
    obtain ⟨h1, h2⟩ := J9 hb hr
    exact (h f t zs (h2 ▸ St h1) h1 h2.symm).elim
theorem MW : ∀ (k : Nat) (last : Int) (l : List Nat) (xs : List Int) (q : List Nat), Fh k last l = some (xs, q) → xs.length = k
  | 0, _, _, _, _, h => by cases h; rfl
  | k + 1, last, l, xs, q, h => by
    unfold Fh at h
    split at h
    · cases h
    split at h
    case isFalse => cases h
    split at h
    case h_2 => cases h
    rename_i ys q' hr
    cases h
    rw [List.length_cons, MW k _ _ ys _ hr]
def zMv : Value := .agg ⟨[.int .i64 0, .int .i64 0, .slice none 0 0]⟩
theorem Ii {h g : Hp} (W : h.Wf) (xg : h.Ext g) {b2 : Nat} (hb2 : h.next ≤ b2) (rg : g.Row b2 0 [.int .i64 0, .int .i64 0, .slice none 0 0]) : ∃ g', storeR 3 (.pointer (some ⟨b2, 0, none⟩)) zMv g = .ok noRes g' ∧ h.Ext g' ∧ loadN 3 ⟨b2, 0, none⟩ g' = .ok zMv g' := by
  have := W.big
  have st := rg.storeR (n := 3) (off := 0) xg.wf (by omega) (v := .agg ⟨[.int .i64 0, .int .i64 0, .slice none 0 0]⟩) rfl (by simp [Ax]) rfl
  rw [Ax] at st
  have r := rg.wr_self xg.wf (off := 0) (vs := [.int .i64 0, .int .i64 0, .slice none 0 0]) (by simp)
  exact ⟨_, st, rg.wr_ext xg (by omega) (by simp), r.loadN (by simp [over])⟩
def r9B : C := (cOp (AC 64) (BO .i64 (AB 8))
(cOp (AC 65) (AL iLt .i64 (AB 11) (AB 64))
(AP (AB 65)
(Ar (AX 1 (cOp (AC 71) (AQ 44 [(AB 0), (AB 5)])
(cOp (AC 72) (AJ 0 (AB 71))
(cOp (AC 73) (AJ 1 (AB 71))
(cOp (AC 74) (AJ 2 (AB 71))
(cOp (AC 12) (AD (AB 72))
(cOp (AC 13) (AD (AB 73))
(cOp (AC 14) (AD (AB 74))
(cOp (AC 76) (AL iNe .i64 (AB 14) (kV (.int .i64 0)))
(cG (AB 76) false (AC 78) (AD (AB 12))
(cG (AB 76) false (AC 79) (AL iGt .u64 (AB 78) (kV (.int .u64 1099511627776)))
(cOp (AC 80) (AS (AB 76) (kV (.bool true)) (AB 79))
(AP (AB 80)
(cOp (AC 81) (A6 B3.zero [])
(cDo (AY 3 (AB 2) (AB 81))
(cOp (AC 3) (AD (kV (.int .i64 167)))
Ae)))
(cOp (AC 84) (BO .i64 (AB 12))
(cOp (AC 85) (A4 .i64 (Ai .i64) (AB 10) (AB 84))
(cOp (AC 10) (AD (AB 85))
(cOp (AC 86) (AF 2 (AB 9))
(cOp (AC 87) (AH (AB 86))
(cOp (AC 89) (AU 1 (BE ty3.zero 1) [(0, 1, (AB 10))])
(cOp (AC 90) (Az 1 8 3 (AB 87) (AB 89))
(cOp (AC 91) (AF 2 (AB 9))
(cDo (AY 1 (AB 91) (AB 90))
(cOp (AC 5) (AD (AB 13))
Ac)))))))))))))))))))))))
(cOp (AC 67) (A4 .i64 (Ai .i64) (AB 11) (kV (.int .i64 1)))
(cOp (AC 11) (AD (AB 67))
Ac)))
(A7 0))))
structure Rm9 (h0 h : Hp) (b2 b9 k : Nat) (f t : Int) (w : Value) (zs : List Int) : Prop where
  ext : h0.Ext h
  kn : k ≤ h.next
  r2 : h.Row b2 0 [.int .i64 0, .int .i64 0, .slice none 0 0]
  r9 : h.Row b9 0 [.int .i64 f, .int .i64 t, w]
  own : h.Own k 3 w (ints .i64 zs)
def sl9 (e : Env) (u : Value) (b2 b9 m : Nat) : Prop := AB 0 e = u ∧ AB 2 e = .pointer (some ⟨b2, 0, none⟩) ∧ AB 9 e = .pointer (some ⟨b9, 0, none⟩) ∧ AB 8 e = .int .u64 (m : Int)
theorem WF {n : Nat} {h0 h : Hp} (W0 : h0.Wf) {u : Value} {l : List Nat} (V : h0.Vals u (l.map bv)) (hb : ∀ x ∈ l, x < 256) (hl : l.length ≤ 1000000) {b2 b9 k p3 m : Nat} {f t : Int} (n1 : h0.next ≤ b2) (n2 : b2 < b9) (n3 : b9 < k) (hm : m ≤ 10000) (hp : p3 ≤ l.length)
    (D : Rm9 h0 h b2 b9 k f t (.slice none 0 0) []) {e : Env} (S : sl9 e u b2 b9 m) (s5 : AB 5 e = .int .i64 (p3 : Int)) (s10 : AB 10 e = .int .i64 0) (s11 : AB 11 e = .int .i64 0) :
    (∃ (e' : Env) (h' : Hp) (p : Nat) (w : Value) (zs : List Int), Ao r9B (call AG (n + 1)) e h = .exit 0 e' h' ∧ Rm9 h0 h' b2 b9 k f t w zs ∧ sl9 e' u b2 b9 m ∧ Fh m 0 (l.drop p3) = some (zs, l.drop p) ∧ p ≤ l.length) ∨
    (∃ e' h', Ao r9B (call AG (n + 1)) e h = .ret e' h' ∧ h0.Ext h' ∧ AB 2 e' = .pointer (some ⟨b2, 0, none⟩) ∧ AB 3 e' = .int .i64 167 ∧ loadN 3 ⟨b2, 0, none⟩ h' = .ok zMv h' ∧ Fh m 0 (l.drop p3) = none) := by
  refine Bo (I := fun i e' h' => ∃ (p : Nat) (w : Value) (zs : List Int) (last : Int), Rm9 h0 h' b2 b9 k f t w zs ∧ zs.length = i ∧ i ≤ m ∧ sl9 e' u b2 b9 m ∧ AB 5 e' = .int .i64 (p : Int) ∧ AB 10 e' = .int .i64 last ∧ 0 ≤ last ∧ last ≤ 1099511627776 * (i : Int) ∧ AB 11 e' = .int .i64 (i : Int) ∧ p ≤ l.length ∧
      Fh m 0 (l.drop p3) = (match Fh (m - i) last (l.drop p) with | some (xs, q) => some (zs ++ xs, q) | none => none))
    (Q := fun x => (∃ (e' : Env) (h' : Hp) (p : Nat) (w : Value) (zs : List Int), x = .exit 0 e' h' ∧ Rm9 h0 h' b2 b9 k f t w zs ∧ sl9 e' u b2 b9 m ∧ Fh m 0 (l.drop p3) = some (zs, l.drop p) ∧ p ≤ l.length) ∨
      (∃ e' h', x = .ret e' h' ∧ h0.Ext h' ∧ AB 2 e' = .pointer (some ⟨b2, 0, none⟩) ∧ AB 3 e' = .int .i64 167 ∧ loadN 3 ⟨b2, 0, none⟩ h' = .ok zMv h' ∧ Fh m 0 (l.drop p3) = none)) m (by omega) (fun i e' h' ⟨p, w, zs, last, D', hz, hi, S', t5, t10, hla, hlb, t11, hp', hrd⟩ => ?_)
    ⟨p3, _, [], 0, D, rfl, Nat.zero_le _, S, s5, s10, by omega, by omega, s11, hp, by
      rw [Nat.sub_zero]
      cases Fh m 0 (l.drop p3) with
      | none => rfl
      | some y => rfl⟩
  obtain ⟨S0, S2, S9, S8⟩ := S'
  have cv8 : C2 .i64 (.int .u64 (m : Int)) h' = .ok (.int .i64 (m : Int)) h' := by rw [B0, BJ (by omega)]
  by_cases hlt : i < m
  · have c1 : iLt (i : Int) (m : Int) = true := by rw [As]; simp; omega
    have V' := V.ext W0 D'.ext
    obtain ⟨a, b, c, k1, G⟩ := H9 (n := n) V' hb hp' hl
    rw [show m - i = (m - (i + 1)) + 1 by omega, Fh] at hrd
    have ret : Fh m 0 (l.drop p3) = none → (∃ e2 h2, r9B (call AG (n + 1)) e' h' = .ret e2 h2 ∧ h0.Ext h2 ∧ AB 2 e2 = .pointer (some ⟨b2, 0, none⟩) ∧ AB 3 e2 = .int .i64 167 ∧ loadN 3 ⟨b2, 0, none⟩ h2 = .ok zMv h2) → ∃ e2 h2, r9B (call AG (n + 1)) e' h' = .ret e2 h2 ∧ h0.Ext h2 ∧ AB 2 e2 = .pointer (some ⟨b2, 0, none⟩) ∧ AB 3 e2 = .int .i64 167 ∧ loadN 3 ⟨b2, 0, none⟩ h2 = .ok zMv h2 ∧ Fh m 0 (l.drop p3) = none := fun hn ⟨e2, h2, a1, a2, a3, a4, a5⟩ => ⟨e2, h2, a1, a2, a3, a4, a5, hn⟩
    obtain ⟨g', f1, f2, f3⟩ := Ii W0 D'.ext n1 D'.r2
    rcases G with ⟨v, j, hu, rfl, rfl, rfl⟩ | ⟨hu, hc⟩
    · have c3 : iNe 0 0 = false := rfl
      rw [hu] at hrd
      simp only at hrd
      have hj := Mm (fun x hx => hb x (List.mem_of_mem_drop hx)) hu
      rw [List.length_drop] at hj
      by_cases hv : v ≤ 1099511627776
      · left
        rw [if_pos hv, List.drop_drop] at hrd
        have c4 : iGt (v : Int) 1099511627776 = false := by rw [BS]; simp; omega
        have cv : C2 .i64 (.int .u64 (v : Int)) h' = .ok (.int .i64 (v : Int)) h' := by rw [B0, BJ (by omega)]
        obtain ⟨la, hla'⟩ := Int.eq_ofNat_of_zero_le hla
        have a1 : Ci .i64 (.int .i64 last) (.int .i64 (v : Int)) h' = .ok (.int .i64 (last + (v : Int))) h' := by
          have : last + (v : Int) = ((la + v : Nat) : Int) := by omega
          rw [Bc, this, BJ (by omega)]
        have ld9 : Cu (.pointer (some ⟨b9, 2, none⟩)) h' = .ok w h' := by rw [Am]; exact D'.r9.load1 (off := 2) (by simp)
        have os : ∀ e, AB 10 e = .int .i64 (last + (v : Int)) → AU 1 (BE ty3.zero 1) [(0, 1, AB 10)] (call AG (n + 1)) e h' = .ok (.slice (some ⟨h'.next, 0, none⟩) 1 1) (h'.pushRow 0 [.int .i64 (last + (v : Int))]) := fun e he => by rw [Hz]; exact Cn D'.ext.wf he rfl rfl
        obtain ⟨h2, v2, y1, y2, y3, y4, y5⟩ := Dt (eb := 8) (n := last + (v : Int)) (kd := .i64) D'.ext (by omega) D'.kn D'.own (by rw [BG]; omega)
        have y3 : h2.Own k 3 v2 (ints .i64 (zs ++ [last + (v : Int)])) := by
          unfold ints; rw [List.map_append]; exact y3
        obtain ⟨z9, a9⟩ := y5 b9 _ _ (D'.own.apart (by omega)) D'.r9
        obtain ⟨z2, _⟩ := y5 b2 _ _ (D'.own.apart (by omega)) D'.r2
        obtain ⟨hc1, hc2⟩ := y3.cells
        have big := W0.big
        have kn := D'.kn
        have st := z9.storeR (n := 1) (off := 2) y2.wf (by omega) (v := v2) (by rw [hc1]; rfl) (by rw [hc1]; simp) (by rw [hc1]; show (bif Bl v2 then true else false) = true; rw [hc2]; rfl)
        rw [hc1] at st
        have w9 := z9.wr_self y2.wf (off := 2) (vs := [v2]) (by simp)
        have x3 := z9.wr_ext y2 (by omega) (off := 2) (vs := [v2]) (by simp)
        have nx3 := z9.wr_next (off := 2) (vs := [v2]) (by simp)
        have ot : ∀ b el L, b ≠ b9 → h2.Row b el L → (h2.wr b9 2 [v2]).Row b el L := fun b el L hne r => z9.wr_other y2.wf (off := 2) (vs := [v2]) (by simp) r hne
        have a2 : Ci .i64 (.int .i64 (i : Int)) (.int .i64 1) (h2.wr b9 2 [v2]) = .ok (.int .i64 ((i + 1 : Nat) : Int)) (h2.wr b9 2 [v2]) := by
          have : (i : Int) + 1 = ((i + 1 : Nat) : Int) := by omega
          rw [Bc, this, BJ (by omega)]
        have hrun : ∃ e2, r9B (call AG (n + 1)) e' h' = .norm e2 (h2.wr b9 2 [v2]) ∧ sl9 e2 u b2 b9 m ∧ AB 5 e2 = .int .i64 ((p + j : Nat) : Int) ∧ AB 10 e2 = .int .i64 (last + (v : Int)) ∧ AB 11 e2 = .int .i64 ((i + 1 : Nat) : Int) := by
          unfold r9B sl9
          simp only [sT, Nat.reduceLT, Nat.reduceEqDiff, if_true, if_false, reduceIte, gD, B4, S8, cv8, AO, AN, t11, c1, Ah, AV, Ad, S0, t5, k1, BK, BP, BQ, Bd, c3, c4, cv, Bb, t10, a1, AW, S9, Aj, Nat.zero_add, Ab, ld9, os, Bv, y1, Au, st, a2]
          exact ⟨_, rfl, ⟨by simp only [AE, Nat.reduceLT, Nat.reduceEqDiff, if_true, if_false, reduceIte]; exact S0, by simp only [AE, Nat.reduceLT, Nat.reduceEqDiff, if_true, if_false, reduceIte]; exact S2, by simp only [AE, Nat.reduceLT, Nat.reduceEqDiff, if_true, if_false, reduceIte]; exact S9, by simp only [AE, Nat.reduceLT, Nat.reduceEqDiff, if_true, if_false, reduceIte]; exact S8⟩, by simp [AE], by simp [AE], by simp [AE]⟩
        obtain ⟨e2, r1, r2, r3, r4, r5⟩ := hrun
        refine ⟨hlt, e2, _, r1, p + j, v2, zs ++ [last + (v : Int)], last + (v : Int), ⟨x3, by rw [nx3]; omega, ot b2 _ _ (by omega) z2, w9, y3.keep fun b el L hbk r => ot b el L (fun hx => (y3.apart (b := b9) (by omega)) (hx ▸ hbk)) r⟩, ?_, hlt, r2, r3, r4, by omega, by omega, r5, by omega, ?_⟩
        · rw [List.length_append, List.length_singleton, hz]
        · rw [hrd]
          cases Fh (m - (i + 1)) (last + (v : Int)) (l.drop (p + j)) with
          | none => rfl
          | some y =>
            obtain ⟨ys, q⟩ := y
            show some (zs ++ (last + (v : Int)) :: ys, q) = some (zs ++ [last + (v : Int)] ++ ys, q)
            rw [List.append_assoc]; rfl
      · right
        rw [if_neg hv] at hrd
        have c4 : iGt (v : Int) 1099511627776 = true := by rw [BS]; simp; omega
        have hrun : ∃ e2, r9B (call AG (n + 1)) e' h' = .ret e2 g' ∧ AB 2 e2 = .pointer (some ⟨b2, 0, none⟩) ∧ AB 3 e2 = .int .i64 167 := by
          unfold r9B
          unfold zMv at f1
          simp only [sT, Nat.reduceLT, Nat.reduceEqDiff, if_true, if_false, reduceIte, gD, B4, S8, cv8, AO, AN, t11, c1, Ah, AV, Ad, S0, t5, k1, BK, BP, BQ, Bd, c3, c4, Bg, CI, BU, Au, S2, f1]
          exact ⟨_, rfl, by simp only [AE, Nat.reduceLT, Nat.reduceEqDiff, if_true, if_false, reduceIte]; exact S2, by simp [AE]⟩
        obtain ⟨e2, r1, r2, r3⟩ := hrun
        rw [r1]
        exact ⟨rfl, .inr ⟨e2, g', rfl, f2, r2, r3, f3, hrd⟩⟩
    · right
      rw [hu] at hrd
      have c3 : iNe c 0 = true := by rw [DB]; simpa using hc
      have hrun : ∃ e2, r9B (call AG (n + 1)) e' h' = .ret e2 g' ∧ AB 2 e2 = .pointer (some ⟨b2, 0, none⟩) ∧ AB 3 e2 = .int .i64 167 := by
        unfold r9B
        unfold zMv at f1
        simp only [sT, Nat.reduceLT, Nat.reduceEqDiff, if_true, if_false, reduceIte, gD, B4, S8, cv8, AO, AN, t11, c1, Ah, AV, Ad, S0, t5, k1, BK, BP, BQ, Bd, c3, Bg, CI, BU, Au, S2, f1]
        exact ⟨_, rfl, by simp only [AE, Nat.reduceLT, Nat.reduceEqDiff, if_true, if_false, reduceIte]; exact S2, by simp [AE]⟩
      obtain ⟨e2, r1, r2, r3⟩ := hrun
      rw [r1]
      exact ⟨rfl, .inr ⟨e2, g', rfl, f2, r2, r3, f3, hrd⟩⟩
  · right
    have c1 : iLt (i : Int) (m : Int) = false := by rw [As]; simp; omega
    have hrun : ∃ e2, r9B (call AG (n + 1)) e' h' = .exit 0 e2 h' ∧ sl9 e2 u b2 b9 m := by
      unfold r9B sl9
      simp only [sT, Nat.reduceLT, Nat.reduceEqDiff, if_true, if_false, reduceIte, B4, S8, cv8, AO, AN, t11, c1]
      exact ⟨_, rfl, by simp only [AE, Nat.reduceLT, Nat.reduceEqDiff, if_true, if_false, reduceIte]; exact S0, by simp only [AE, Nat.reduceLT, Nat.reduceEqDiff, if_true, if_false, reduceIte]; exact S2, by simp only [AE, Nat.reduceLT, Nat.reduceEqDiff, if_true, if_false, reduceIte]; exact S9, by simp only [AE, Nat.reduceLT, Nat.reduceEqDiff, if_true, if_false, reduceIte]; exact S8⟩
    obtain ⟨e2, r1, r2⟩ := hrun
    rw [r1]
    refine ⟨rfl, .inl ⟨e2, h', p, w, zs, rfl, D', r2, ?_, hp'⟩⟩
    rw [show m - i = 0 by omega] at hrd
    rw [hrd]
    show some (zs ++ [], l.drop p) = _
    rw [List.append_nil]
end
end Go.Proofs.Ytkafejncffinmaa
set_option linter.unusedVariables false
set_option linter.unusedSimpArgs false
namespace Go.Proofs.Ytkafejncffinmaa
noncomputable section
open Go
set_option maxRecDepth 100000
def r9E : C := (cOp (AC 94) (Aa 3 (AB 9))
(cOp (AC 95) (AQ 24 [(AB 94)])
(cOp (AC 96) (AJ 0 (AB 95))
(cOp (AC 97) (AJ 1 (AB 95))
(cOp (AC 15) (AD (AB 96))
(cOp (AC 6) (AD (AB 97))
(cOp (AC 99) (AL iNe .i64 (AB 6) (kV (.int .i64 0)))
(cG (AB 99) false (AC 101) (AD (AB 15))
(cG (AB 99) false (AC 102) (Cm (AB 101))
(cG (AB 99) false (AC 103) (AD (AB 0))
(cG (AB 99) false (AC 104) (Cm (AB 103))
(cG (AB 99) false (AC 105) (GK (fun a b => !bEq a b) (AB 102) (AB 104))
(cOp (AC 106) (AS (AB 99) (kV (.bool true)) (AB 105))
(AP (AB 106)
(cOp (AC 107) (A6 B3.zero [])
(cDo (AY 3 (AB 2) (AB 107))
(cOp (AC 3) (AD (kV (.int .i64 167)))
Ae)))
(cOp (AC 108) (Aa 3 (AB 9))
(cDo (AY 3 (AB 2) (AB 108))
(cOp (AC 3) (AD (kV (.int .i64 0)))
Ae)))))))))))))))))
def r9S : C := (Ar (AX 0 (Ao (cOp (AC 64) (BO .i64 (AB 8))
(cOp (AC 65) (AL iLt .i64 (AB 11) (AB 64))
(AP (AB 65)
(Ar (AX 1 (cOp (AC 71) (AQ 44 [(AB 0), (AB 5)])
(cOp (AC 72) (AJ 0 (AB 71))
(cOp (AC 73) (AJ 1 (AB 71))
(cOp (AC 74) (AJ 2 (AB 71))
(cOp (AC 12) (AD (AB 72))
(cOp (AC 13) (AD (AB 73))
(cOp (AC 14) (AD (AB 74))
(cOp (AC 76) (AL iNe .i64 (AB 14) (kV (.int .i64 0)))
(cG (AB 76) false (AC 78) (AD (AB 12))
(cG (AB 76) false (AC 79) (AL iGt .u64 (AB 78) (kV (.int .u64 1099511627776)))
(cOp (AC 80) (AS (AB 76) (kV (.bool true)) (AB 79))
(AP (AB 80)
(cOp (AC 81) (A6 B3.zero [])
(cDo (AY 3 (AB 2) (AB 81))
(cOp (AC 3) (AD (kV (.int .i64 167)))
Ae)))
(cOp (AC 84) (BO .i64 (AB 12))
(cOp (AC 85) (A4 .i64 (Ai .i64) (AB 10) (AB 84))
(cOp (AC 10) (AD (AB 85))
(cOp (AC 86) (AF 2 (AB 9))
(cOp (AC 87) (AH (AB 86))
(cOp (AC 89) (AU 1 (BE ty3.zero 1) [(0, 1, (AB 10))])
(cOp (AC 90) (Az 1 8 3 (AB 87) (AB 89))
(cOp (AC 91) (AF 2 (AB 9))
(cDo (AY 1 (AB 91) (AB 90))
(cOp (AC 5) (AD (AB 13))
Ac)))))))))))))))))))))))
(cOp (AC 67) (A4 .i64 (Ai .i64) (AB 11) (kV (.int .i64 1)))
(cOp (AC 11) (AD (AB 67))
Ac)))
(A7 0))))))
(cOp (AC 94) (Aa 3 (AB 9))
(cOp (AC 95) (AQ 24 [(AB 94)])
(cOp (AC 96) (AJ 0 (AB 95))
(cOp (AC 97) (AJ 1 (AB 95))
(cOp (AC 15) (AD (AB 96))
(cOp (AC 6) (AD (AB 97))
(cOp (AC 99) (AL iNe .i64 (AB 6) (kV (.int .i64 0)))
(cG (AB 99) false (AC 101) (AD (AB 15))
(cG (AB 99) false (AC 102) (Cm (AB 101))
(cG (AB 99) false (AC 103) (AD (AB 0))
(cG (AB 99) false (AC 104) (Cm (AB 103))
(cG (AB 99) false (AC 105) (GK (fun a b => !bEq a b) (AB 102) (AB 104))
(cOp (AC 106) (AS (AB 99) (kV (.bool true)) (AB 105))
(AP (AB 106)
(cOp (AC 107) (A6 B3.zero [])
(cDo (AY 3 (AB 2) (AB 107))
(cOp (AC 3) (AD (kV (.int .i64 167)))
Ae)))
(cOp (AC 108) (Aa 3 (AB 9))
(cDo (AY 3 (AB 2) (AB 108))
(cOp (AC 3) (AD (kV (.int .i64 0)))
Ae))))))))))))))))))
theorem Sp : r9S = Ar (AX 0 (Ao r9B)) r9E := rfl
def r9R : C := (cOp (AC 58) (BO .i64 (AB 4))
(cOp (AC 60) (BO .i64 (AB 7))
(cOp (AC 61) (A6 B3.zero [(0, 1, (AB 58)), (1, 1, (AB 60))])
(cOp (AC 9) (At 3 BB)
(cDo (AY 3 (AB 9) (AB 61))
(cOp (AC 10) (AD (kV (.int .i64 0)))
(cOp (AC 11) (AD (kV (.int .i64 0)))
r9S)))))))
def K6 : C := (cOp (AC 46) (AQ 44 [(AB 0), (AB 5)])
(cOp (AC 47) (AJ 0 (AB 46))
(cOp (AC 48) (AJ 1 (AB 46))
(cOp (AC 49) (AJ 2 (AB 46))
(cOp (AC 8) (AD (AB 47))
(cOp (AC 5) (AD (AB 48))
(cOp (AC 6) (AD (AB 49))
(cOp (AC 51) (AL iNe .i64 (AB 6) (kV (.int .i64 0)))
(cG (AB 51) false (AC 53) (AD (AB 8))
(cG (AB 51) false (AC 54) (AL iGt .u64 (AB 53) (kV (.int .u64 10000)))
(cOp (AC 55) (AS (AB 51) (kV (.bool true)) (AB 54))
(AP (AB 55)
(cOp (AC 56) (A6 B3.zero [])
(cDo (AY 3 (AB 2) (AB 56))
(cOp (AC 3) (AD (kV (.int .i64 167)))
Ae)))
r9R))))))))))))
def MU : C := (cOp (AC 32) (AQ 44 [(AB 0), (AB 5)])
(cOp (AC 33) (AJ 0 (AB 32))
(cOp (AC 34) (AJ 1 (AB 32))
(cOp (AC 35) (AJ 2 (AB 32))
(cOp (AC 7) (AD (AB 33))
(cOp (AC 5) (AD (AB 34))
(cOp (AC 6) (AD (AB 35))
(cOp (AC 37) (AL iNe .i64 (AB 6) (kV (.int .i64 0)))
(cG (AB 37) false (AC 39) (AD (AB 7))
(cG (AB 37) false (AC 40) (AL iGt .u64 (AB 39) (kV (.int .u64 256)))
(cOp (AC 41) (AS (AB 37) (kV (.bool true)) (AB 40))
(AP (AB 41)
(cOp (AC 42) (A6 B3.zero [])
(cDo (AY 3 (AB 2) (AB 42))
(cOp (AC 3) (AD (kV (.int .i64 167)))
Ae)))
K6))))))))))))
def JT : C := (cOp (AC 2) (At 3 BB)
(cOp (AC 3) (AD (kV (.int .i64 0)))
(cOp (AC 18) (AQ 44 [(AB 0), (kV (.int .i64 0))])
(cOp (AC 19) (AJ 0 (AB 18))
(cOp (AC 20) (AJ 1 (AB 18))
(cOp (AC 21) (AJ 2 (AB 18))
(cOp (AC 4) (AD (AB 19))
(cOp (AC 5) (AD (AB 20))
(cOp (AC 6) (AD (AB 21))
(cOp (AC 23) (AL iNe .i64 (AB 6) (kV (.int .i64 0)))
(cG (AB 23) false (AC 25) (AD (AB 4))
(cG (AB 23) false (AC 26) (AL iGt .u64 (AB 25) (kV (.int .u64 256)))
(cOp (AC 27) (AS (AB 23) (kV (.bool true)) (AB 26))
(AP (AB 27)
(cOp (AC 28) (A6 B3.zero [])
(cDo (AY 3 (AB 2) (AB 28))
(cOp (AC 3) (AD (kV (.int .i64 167)))
Ae)))
MU))))))))))))))
def d25 : C := JT
theorem Qi {n : Nat} {args : List Value} {h : Hp} (hl : Nat.ble (Bk args) 320 = true) : call AG (Nat.succ n) 25 args h = Bs [.cN (AB 2) 3, .t (AB 3)] (d25 (call AG n) (Ak e0 0 args) h) := by
  have hb : AG.get 25 = some b25 := by kernel_rfl
  rw [BM hb]
  have hd : b25 = ⟨[.cN (AB 2) 3, .t (AB 3)], d25⟩ := by kernel_rfl
  rw [hd, BC hl]
theorem Qy : d25 = JT := rfl
theorem Ly : ∀ (a b : List Nat), (∀ x ∈ a, x < 256) → (∀ x ∈ b, x < 256) → a.map UInt8.ofNat = b.map UInt8.ofNat → a = b
  | [], [], _, _, _ => rfl
  | [], _ :: _, _, _, h => by cases h
  | _ :: _, [], _, _, h => by cases h
  | x :: a, y :: b, ha, hb, h => by
    rw [List.map_cons, List.map_cons] at h
    injection h with h1 h2
    have h3 := congrArg UInt8.toNat h1
    rw [UInt8.toNat_ofNat', UInt8.toNat_ofNat', Nat.mod_eq_of_lt (ha x List.mem_cons_self), Nat.mod_eq_of_lt (hb y List.mem_cons_self)] at h3
    rw [h3, Ly a b (fun z hz => ha z (List.mem_cons_of_mem _ hz)) (fun z hz => hb z (List.mem_cons_of_mem _ hz)) h2]
theorem PD {a b : List Nat} (ha : ∀ x ∈ a, x < 256) (hb : ∀ x ∈ b, x < 256) : bEq (a.map UInt8.ofNat) (b.map UInt8.ofNat) = decide (a = b) := by
  rw [IP, Bool.eq_iff_iff, beq_iff_eq, decide_eq_true_eq]
  exact ⟨Ly a b ha hb, fun h => by rw [h]⟩
theorem VH : Kt = .tuple ⟨[zMv, .int .i64 167]⟩ := rfl
theorem aY {n : Nat} {h h' : Hp} (W : h.Wf) {u : Value} {l : List Nat} (V : h.Vals u (l.map bv)) (hb : ∀ x ∈ l, x < 256) {b2 b9 k m : Nat} {f t : Int} {w : Value} {zs : List Int} (n1 : h.next ≤ b2) (n2 : b2 < b9) (n3 : b9 < k) (D : Rm9 h h' b2 b9 k f t w zs) {e : Env} (S : sl9 e u b2 b9 m) (hz : zs.length ≤ 10000) :
    (Bq f t zs = true ∧ Cj f t zs = l ∧ ∃ e2 g, r9E (call AG (n + 3)) e h' = .ret e2 g ∧ AB 2 e2 = .pointer (some ⟨b2, 0, none⟩) ∧ AB 3 e2 = .int .i64 0 ∧ h.Ext g ∧ loadN 3 ⟨b2, 0, none⟩ g = .ok (mvV f t w) g ∧ g.Vals w (ints .i64 zs)) ∨
    (¬ (Bq f t zs = true ∧ Cj f t zs = l) ∧ ∃ e2 g, r9E (call AG (n + 3)) e h' = .ret e2 g ∧ AB 2 e2 = .pointer (some ⟨b2, 0, none⟩) ∧ AB 3 e2 = .int .i64 167 ∧ h.Ext g ∧ loadN 3 ⟨b2, 0, none⟩ g = .ok zMv g) := by
  obtain ⟨S0, S2, S9, S8⟩ := S
  have W' := D.ext.wf
  have ld9 : loadN 3 ⟨b9, 0, none⟩ h' = .ok (mvV f t w) h' := D.r9.loadN (by simp)
  have V' := D.own.vals
  cases hR : Bq f t zs with
  | false =>
    right
    refine ⟨(fun h => by cases h.1), ?_⟩
    obtain ⟨g, k1, x1⟩ := Jf (n := n) W' V' (by omega) hR
    obtain ⟨g', f1, f2, f3⟩ := Ii W (D.ext.trans x1) n1 (D.r2.ext W' x1)
    have c1 : iNe 167 0 = true := rfl
    have hrun : ∃ e2, r9E (call AG (n + 3)) e h' = .ret e2 g' ∧ AB 2 e2 = .pointer (some ⟨b2, 0, none⟩) ∧ AB 3 e2 = .int .i64 167 := by
      unfold r9E
      unfold zMv at f1
      simp only [sT, Nat.reduceLT, Nat.reduceEqDiff, if_true, if_false, reduceIte, gD, Ay, S9, Aw, ld9, Ah, AV, Ad, k1, BK, BP, BQ, AO, AN, c1, Bg, CI, BU, Au, S2, f1]
      exact ⟨_, rfl, by simp only [AE, Nat.reduceLT, Nat.reduceEqDiff, if_true, if_false, reduceIte]; exact S2, by simp [AE]⟩
    obtain ⟨e2, r1, r2, r3⟩ := hrun
    exact ⟨e2, g', r1, r2, r3, f2, f3⟩
  | true =>
    obtain ⟨g, v, k1, x1, o1⟩ := Jg (n := n) W' V' hR
    have xx := D.ext.trans x1
    have U := V.ext W xx
    have c1 : iNe 0 0 = false := rfl
    have hq := PD (PH f t zs) hb
    by_cases hl : Cj f t zs = l
    · left
      rw [decide_eq_true hl] at hq
      have R2 := D.r2.ext W' x1
      have ld9' : loadN 3 ⟨b9, 0, none⟩ g = .ok (mvV f t w) g := (D.r9.ext W' x1).loadN (by simp)
      have ow := D.own.cells
      have big := W.big
      have st := R2.storeR (n := 3) (off := 0) xx.wf (by omega) (v := mvV f t w) rfl (by simp [mvV, Ax]) (by show (bif Bl w then true else false) = true; rw [ow.2]; rfl)
      have rs := R2.wr_self xx.wf (off := 0) (vs := cellsOf (mvV f t w)) (by simp [mvV, Ax])
      have xs := R2.wr_ext xx (by omega) (off := 0) (vs := cellsOf (mvV f t w)) (by simp [mvV, Ax])
      have ys : ∀ b el L, b ≠ b2 → g.Row b el L → (g.wr b2 0 (cellsOf (mvV f t w))).Row b el L := fun b el L hne r => R2.wr_other xx.wf (off := 0) (vs := cellsOf (mvV f t w)) (by simp [mvV, Ax]) r hne
      have lr : loadN 3 ⟨b2, 0, none⟩ (g.wr b2 0 (cellsOf (mvV f t w))) = .ok (mvV f t w) _ := rs.loadN (by simp [over, mvV, Ax])
      have own' : g.Own k 3 w (ints .i64 zs) := D.own.ext W' x1
      have own2 := own'.keep (h' := g.wr b2 0 (cellsOf (mvV f t w))) fun b el L hbk r => ys b el L (fun hx => (own'.apart (b := b2) (by omega)) (hx ▸ hbk)) r
      have hrun : ∃ e2, r9E (call AG (n + 3)) e h' = .ret e2 (g.wr b2 0 (cellsOf (mvV f t w))) ∧ AB 2 e2 = .pointer (some ⟨b2, 0, none⟩) ∧ AB 3 e2 = .int .i64 0 := by
        unfold r9E
        simp only [sT, Nat.reduceLT, Nat.reduceEqDiff, if_true, if_false, reduceIte, gD, Ay, S9, Aw, ld9, Ah, AV, Ad, k1, BK, BP, BQ, AO, AN, c1, GE, o1.vals.bytes.str, S0, U.bytes.str, K2, Kb, hq, Bool.not_true, ld9', Au, S2, st]
        exact ⟨_, rfl, by simp only [AE, Nat.reduceLT, Nat.reduceEqDiff, if_true, if_false, reduceIte]; exact S2, by simp [AE]⟩
      obtain ⟨e2, r1, r2, r3⟩ := hrun
      exact ⟨rfl, hl, e2, _, r1, r2, r3, xs, lr, own2.vals⟩
    · right
      rw [decide_eq_false hl] at hq
      refine ⟨fun h => hl h.2, ?_⟩
      obtain ⟨g', f1, f2, f3⟩ := Ii W xx n1 (D.r2.ext W' x1)
      have hrun : ∃ e2, r9E (call AG (n + 3)) e h' = .ret e2 g' ∧ AB 2 e2 = .pointer (some ⟨b2, 0, none⟩) ∧ AB 3 e2 = .int .i64 167 := by
        unfold r9E
        unfold zMv at f1
        simp only [sT, Nat.reduceLT, Nat.reduceEqDiff, if_true, if_false, reduceIte, gD, Ay, S9, Aw, ld9, Ah, AV, Ad, k1, BK, BP, BQ, AO, AN, c1, GE, o1.vals.bytes.str, S0, U.bytes.str, K2, Kb, hq, Bool.not_false, Bg, CI, BU, Au, S2, f1]
        exact ⟨_, rfl, by simp only [AE, Nat.reduceLT, Nat.reduceEqDiff, if_true, if_false, reduceIte]; exact S2, by simp [AE]⟩
      obtain ⟨e2, r1, r2, r3⟩ := hrun
      exact ⟨e2, g', r1, r2, r3, f2, f3⟩
theorem MV {n : Nat} {h : Hp} (W : h.Wf) {u : Value} {l : List Nat} (V : h.Vals u (l.map bv)) (hb : ∀ x ∈ l, x < 256) (hl : l.length ≤ 1000000) :
    (∃ f t zs h' w, EE l = some (f, t, zs) ∧ call AG (n + 4) 25 [u] h = .ok (.tuple ⟨[mvV f t w, .int .i64 0]⟩) h' ∧ h.Ext h' ∧ h'.Vals w (ints .i64 zs)) ∨
    (EE l = none ∧ ∃ h', call AG (n + 4) 25 [u] h = .ok Kt h' ∧ h.Ext h') := by
  have x1 := (Hp.Ext.refl W).push (.cells BB 3 0)
  have R2 : (h.push (.cells BB 3 0)).Row h.next 0 [.int .i64 0, .int .i64 0, .slice none 0 0] := Hp.Row.alloc W C9 rfl
  have al := fun (e : Env) => Bz (F := call AG (n + 3)) (e := e) (n := 3) (t := BB) W
  have nx1 : (h.push (.cells BB 3 0)).next = h.next + 1 := rfl
  generalize h.push (.cells BB 3 0) = h1 at x1 R2 al nx1
  have V1 := V.ext W x1
  have big := W.big
  obtain ⟨gf, f1, f2, f3⟩ := Ii W x1 (Nat.le_refl _) R2
  have fin : ∀ {e2 : Env} {g : Hp}, JT (call AG (n + 3)) (Ak e0 0 [u]) h = .ret e2 g → AB 2 e2 = .pointer (some ⟨h.next, 0, none⟩) → AB 3 e2 = .int .i64 167 → loadN 3 ⟨h.next, 0, none⟩ g = .ok zMv g → call AG (n + 4) 25 [u] h = .ok Kt g := fun q1 q2 q3 q4 => by
    rw [Qi rfl, Qy, q1]
    simp only [AZ, Dh, q2, q3, Aw, q4, FS, VH]
  have f1' := f1
  unfold zMv at f1'
  obtain ⟨a, b, c, k1, G⟩ := H9 (n := n + 2) V1 hb (Nat.zero_le _) hl
  have k1 : call AG (n + 3) 44 [u, .int .i64 0] h1 = .ok (.tuple ⟨[.int .u64 a, .int .i64 b, .int .i64 c]⟩) h1 := k1
  rcases G with ⟨vf, j1, hu1, rfl, rfl, rfl⟩ | ⟨hu1, hc⟩
  case inr =>
    have hu1 : Cb 0 0 l = none := hu1
    right
    refine ⟨D5 hb (fun f t zs hA _ _ => by unfold HC at hA; rw [hu1] at hA; cases hA), gf, ?_, f2⟩
    have c1 : iNe c 0 = true := by rw [DB]; simpa using hc
    have hrun : ∃ e2, JT (call AG (n + 3)) (Ak e0 0 [u]) h = .ret e2 gf ∧ AB 2 e2 = .pointer (some ⟨h.next, 0, none⟩) ∧ AB 3 e2 = .int .i64 167 := by
      unfold JT
      simp only [AK, AM, Nat.succ_eq_add_one, Nat.zero_add, Nat.reduceAdd, sT, Nat.reduceLT, Nat.reduceEqDiff, if_true, if_false, reduceIte, gD, al, Ah, AV, Ad, k1, BK, BP, BQ, Bd, AO, AN, c1, Bg, CI, BU, Au, f1']
      exact ⟨_, rfl, by simp [AE], by simp [AE]⟩
    obtain ⟨e2, r1, r2, r3⟩ := hrun
    exact fin r1 r2 r3 f3
  have hu1 : Cb 0 0 l = some (vf, j1) := hu1
  rw [Nat.zero_add] at k1
  have c0 : iNe 0 0 = false := rfl
  by_cases hv1 : 256 < vf
  · right
    refine ⟨D5 hb (fun f t zs hA _ _ => by unfold HC at hA; rw [hu1] at hA; simp only at hA; rw [if_neg (by omega)] at hA; cases hA), gf, ?_, f2⟩
    have c1 : iGt (vf : Int) 256 = true := by rw [BS]; simp; omega
    have hrun : ∃ e2, JT (call AG (n + 3)) (Ak e0 0 [u]) h = .ret e2 gf ∧ AB 2 e2 = .pointer (some ⟨h.next, 0, none⟩) ∧ AB 3 e2 = .int .i64 167 := by
      unfold JT
      simp only [AK, AM, Nat.succ_eq_add_one, Nat.zero_add, Nat.reduceAdd, sT, Nat.reduceLT, Nat.reduceEqDiff, if_true, if_false, reduceIte, gD, al, Ah, AV, Ad, k1, BK, BP, BQ, Bd, AO, AN, c0, c1, Bg, CI, BU, Au, f1']
      exact ⟨_, rfl, by simp [AE], by simp [AE]⟩
    obtain ⟨e2, r1, r2, r3⟩ := hrun
    exact fin r1 r2 r3 f3
  have hj1 := Mm hb hu1
  have pre1 : ∃ e1, JT (call AG (n + 3)) (Ak e0 0 [u]) h = MU (call AG (n + 3)) e1 h1 ∧ AB 0 e1 = u ∧ AB 2 e1 = .pointer (some ⟨h.next, 0, none⟩) ∧ AB 4 e1 = .int .u64 (vf : Int) ∧ AB 5 e1 = .int .i64 (j1 : Int) := by
    have c1 : iGt (vf : Int) 256 = false := by rw [BS]; simp; omega
    unfold JT
    simp only [AK, AM, Nat.succ_eq_add_one, Nat.zero_add, Nat.reduceAdd, sT, Nat.reduceLT, Nat.reduceEqDiff, if_true, if_false, reduceIte, gD, al, Ah, AV, Ad, k1, BK, BP, BQ, Bd, AO, AN, c0, c1]
    exact ⟨_, rfl, by simp [AE], by simp [AE], by simp [AE], by simp [AE]⟩
  obtain ⟨e1, p1, s0, s2, s4, s5⟩ := pre1
  obtain ⟨a2, b2, c2, k2, G2⟩ := H9 (n := n + 2) V1 hb hj1 hl
  rcases G2 with ⟨vt, j2, hu2, rfl, rfl, rfl⟩ | ⟨hu2, hc⟩
  case inr =>
    right
    refine ⟨D5 hb (fun f t zs hA _ _ => by unfold HC at hA; rw [hu1] at hA; simp only at hA; rw [if_pos (by omega), hu2] at hA; cases hA), gf, ?_, f2⟩
    have c1 : iNe c2 0 = true := by rw [DB]; simpa using hc
    have hrun : ∃ e2, MU (call AG (n + 3)) e1 h1 = .ret e2 gf ∧ AB 2 e2 = .pointer (some ⟨h.next, 0, none⟩) ∧ AB 3 e2 = .int .i64 167 := by
      unfold MU
      simp only [sT, Nat.reduceLT, Nat.reduceEqDiff, if_true, if_false, reduceIte, gD, Ah, AV, Ad, s0, s5, k2, BK, BP, BQ, Bd, AO, AN, c1, Bg, CI, BU, Au, s2, f1']
      exact ⟨_, rfl, by simp only [AE, Nat.reduceLT, Nat.reduceEqDiff, if_true, if_false, reduceIte]; exact s2, by simp [AE]⟩
    obtain ⟨e2, r1, r2, r3⟩ := hrun
    exact fin (p1.trans r1) r2 r3 f3
  by_cases hv2 : 256 < vt
  · right
    refine ⟨D5 hb (fun f t zs hA _ _ => by unfold HC at hA; rw [hu1] at hA; simp only at hA; rw [if_pos (by omega), hu2] at hA; simp only at hA; rw [if_neg (by omega)] at hA; cases hA), gf, ?_, f2⟩
    have c1 : iGt (vt : Int) 256 = true := by rw [BS]; simp; omega
    have hrun : ∃ e2, MU (call AG (n + 3)) e1 h1 = .ret e2 gf ∧ AB 2 e2 = .pointer (some ⟨h.next, 0, none⟩) ∧ AB 3 e2 = .int .i64 167 := by
      unfold MU
      simp only [sT, Nat.reduceLT, Nat.reduceEqDiff, if_true, if_false, reduceIte, gD, Ah, AV, Ad, s0, s5, k2, BK, BP, BQ, Bd, AO, AN, c0, c1, Bg, CI, BU, Au, s2, f1']
      exact ⟨_, rfl, by simp only [AE, Nat.reduceLT, Nat.reduceEqDiff, if_true, if_false, reduceIte]; exact s2, by simp [AE]⟩
    obtain ⟨e2, r1, r2, r3⟩ := hrun
    exact fin (p1.trans r1) r2 r3 f3
  have hj2 := Mm (fun x hx => hb x (List.mem_of_mem_drop hx)) hu2
  rw [List.length_drop] at hj2
  have pre2 : ∃ e2, MU (call AG (n + 3)) e1 h1 = K6 (call AG (n + 3)) e2 h1 ∧ AB 0 e2 = u ∧ AB 2 e2 = .pointer (some ⟨h.next, 0, none⟩) ∧ AB 4 e2 = .int .u64 (vf : Int) ∧ AB 7 e2 = .int .u64 (vt : Int) ∧ AB 5 e2 = .int .i64 ((j1 + j2 : Nat) : Int) := by
    have c1 : iGt (vt : Int) 256 = false := by rw [BS]; simp; omega
    unfold MU
    simp only [sT, Nat.reduceLT, Nat.reduceEqDiff, if_true, if_false, reduceIte, gD, Ah, AV, Ad, s0, s5, k2, BK, BP, BQ, Bd, AO, AN, c0, c1]
    exact ⟨_, rfl, by simp only [AE, Nat.reduceLT, Nat.reduceEqDiff, if_true, if_false, reduceIte]; exact s0, by simp only [AE, Nat.reduceLT, Nat.reduceEqDiff, if_true, if_false, reduceIte]; exact s2, by simp only [AE, Nat.reduceLT, Nat.reduceEqDiff, if_true, if_false, reduceIte]; exact s4, by simp [AE], by simp [AE]⟩
  obtain ⟨e2, p2, t0, t2, t4, t7, t5⟩ := pre2
  obtain ⟨a3, b3, c3, k3, G3⟩ := H9 (n := n + 2) V1 hb (p := j1 + j2) (by omega) hl
  rcases G3 with ⟨vm, j3, hu3, rfl, rfl, rfl⟩ | ⟨hu3, hc⟩
  case inr =>
    right
    refine ⟨D5 hb (fun f t zs hA _ _ => by unfold HC at hA; rw [hu1] at hA; simp only at hA; rw [if_pos (by omega), hu2] at hA; simp only at hA; rw [if_pos (by omega), hu3] at hA; cases hA), gf, ?_, f2⟩
    have c1 : iNe c3 0 = true := by rw [DB]; simpa using hc
    have hrun : ∃ e3, K6 (call AG (n + 3)) e2 h1 = .ret e3 gf ∧ AB 2 e3 = .pointer (some ⟨h.next, 0, none⟩) ∧ AB 3 e3 = .int .i64 167 := by
      unfold K6
      simp only [sT, Nat.reduceLT, Nat.reduceEqDiff, if_true, if_false, reduceIte, gD, Ah, AV, Ad, t0, t5, k3, BK, BP, BQ, Bd, AO, AN, c1, Bg, CI, BU, Au, t2, f1']
      exact ⟨_, rfl, by simp only [AE, Nat.reduceLT, Nat.reduceEqDiff, if_true, if_false, reduceIte]; exact t2, by simp [AE]⟩
    obtain ⟨e3, r1, r2, r3⟩ := hrun
    exact fin ((p1.trans p2).trans r1) r2 r3 f3
  by_cases hv3 : 10000 < vm
  · right
    refine ⟨D5 hb (fun f t zs hA _ _ => by unfold HC at hA; rw [hu1] at hA; simp only at hA; rw [if_pos (by omega), hu2] at hA; simp only at hA; rw [if_pos (by omega), hu3] at hA; simp only at hA; rw [if_neg (by omega)] at hA; cases hA), gf, ?_, f2⟩
    have c1 : iGt (vm : Int) 10000 = true := by rw [BS]; simp; omega
    have hrun : ∃ e3, K6 (call AG (n + 3)) e2 h1 = .ret e3 gf ∧ AB 2 e3 = .pointer (some ⟨h.next, 0, none⟩) ∧ AB 3 e3 = .int .i64 167 := by
      unfold K6
      simp only [sT, Nat.reduceLT, Nat.reduceEqDiff, if_true, if_false, reduceIte, gD, Ah, AV, Ad, t0, t5, k3, BK, BP, BQ, Bd, AO, AN, c0, c1, Bg, CI, BU, Au, t2, f1']
      exact ⟨_, rfl, by simp only [AE, Nat.reduceLT, Nat.reduceEqDiff, if_true, if_false, reduceIte]; exact t2, by simp [AE]⟩
    obtain ⟨e3, r1, r2, r3⟩ := hrun
    exact fin ((p1.trans p2).trans r1) r2 r3 f3
  have hj3 := Mm (fun x hx => hb x (List.mem_of_mem_drop hx)) hu3
  rw [List.length_drop] at hj3
  have x2 := x1.push (.cells BB 3 0)
  have y2 := (Hp.Ext.refl x1.wf).push (.cells BB 3 0)
  have Q9 : (h1.push (.cells BB 3 0)).Row h1.next 0 [.int .i64 0, .int .i64 0, .slice none 0 0] := Hp.Row.alloc x1.wf C9 rfl
  have al2 := fun (e : Env) => Bz (F := call AG (n + 3)) (e := e) (n := 3) (t := BB) x1.wf
  have nx2 : (h1.push (.cells BB 3 0)).next = h1.next + 1 := rfl
  have Q2 := R2.ext x1.wf y2
  generalize h1.push (.cells BB 3 0) = h2 at x2 y2 Q9 al2 nx2 Q2
  have st := Q9.storeR (n := 3) (off := 0) x2.wf (by omega) (v := .agg ⟨[.int .i64 (vf : Int), .int .i64 (vt : Int), .slice none 0 0]⟩) rfl (by simp [Ax]) rfl
  rw [Ax] at st
  have P2 := Q9.wr_other x2.wf (off := 0) (vs := [.int .i64 (vf : Int), .int .i64 (vt : Int), .slice none 0 0]) (by simp) Q2 (by omega)
  have P9 := Q9.wr_self x2.wf (off := 0) (vs := [.int .i64 (vf : Int), .int .i64 (vt : Int), .slice none 0 0]) (by simp)
  have x3 := Q9.wr_ext x2 (by omega) (off := 0) (vs := [.int .i64 (vf : Int), .int .i64 (vt : Int), .slice none 0 0]) (by simp)
  have nx3 := Q9.wr_next (off := 0) (vs := [.int .i64 (vf : Int), .int .i64 (vt : Int), .slice none 0 0]) (by simp)
  generalize h2.wr h1.next 0 [.int .i64 (vf : Int), .int .i64 (vt : Int), .slice none 0 0] = h3 at st P2 P9 x3 nx3
  have P9 : h3.Row h1.next 0 [.int .i64 (vf : Int), .int .i64 (vt : Int), .slice none 0 0] := P9
  have D : Rm9 h h3 h.next h1.next h3.next (vf : Int) (vt : Int) (.slice none 0 0) [] := ⟨x3, Nat.le_refl _, P2, P9, .inl ⟨rfl, rfl⟩⟩
  have cf : C2 .i64 (.int .u64 (vf : Int)) h1 = .ok (.int .i64 (vf : Int)) h1 := by rw [B0, BJ (by omega)]
  have ct : C2 .i64 (.int .u64 (vt : Int)) h1 = .ok (.int .i64 (vt : Int)) h1 := by rw [B0, BJ (by omega)]
  have pre3 : ∃ e3, K6 (call AG (n + 3)) e2 h1 = r9S (call AG (n + 3)) e3 h3 ∧ sl9 e3 u h.next h1.next vm ∧ AB 5 e3 = .int .i64 ((j1 + j2 + j3 : Nat) : Int) ∧ AB 10 e3 = .int .i64 0 ∧ AB 11 e3 = .int .i64 0 := by
    have c1 : iGt (vm : Int) 10000 = false := by rw [BS]; simp; omega
    have q1 : ∃ e3, K6 (call AG (n + 3)) e2 h1 = r9R (call AG (n + 3)) e3 h1 ∧ AB 0 e3 = u ∧ AB 2 e3 = .pointer (some ⟨h.next, 0, none⟩) ∧ AB 4 e3 = .int .u64 (vf : Int) ∧ AB 7 e3 = .int .u64 (vt : Int) ∧ AB 8 e3 = .int .u64 (vm : Int) ∧ AB 5 e3 = .int .i64 ((j1 + j2 + j3 : Nat) : Int) := by
      unfold K6
      simp only [sT, Nat.reduceLT, Nat.reduceEqDiff, if_true, if_false, reduceIte, gD, Ah, AV, Ad, t0, t5, k3, BK, BP, BQ, Bd, AO, AN, c0, c1]
      exact ⟨_, rfl, by simp only [AE, Nat.reduceLT, Nat.reduceEqDiff, if_true, if_false, reduceIte]; exact t0, by simp only [AE, Nat.reduceLT, Nat.reduceEqDiff, if_true, if_false, reduceIte]; exact t2, by simp only [AE, Nat.reduceLT, Nat.reduceEqDiff, if_true, if_false, reduceIte]; exact t4, by simp only [AE, Nat.reduceLT, Nat.reduceEqDiff, if_true, if_false, reduceIte]; exact t7, by simp [AE], by simp [AE]⟩
    obtain ⟨e3, q1, v0, v2, v4, v7, v8, v5⟩ := q1
    rw [q1]
    unfold r9R sl9
    simp only [BX, D9, BZ, EB, A5, Br, AE, Nat.reduceLT, Nat.reduceEqDiff, if_true, if_false, reduceIte, B4, v4, v7, cf, ct, Bg, CI, CV, BU, F7, De, List.length_cons, List.length_nil, Nat.zero_add, Nat.reduceAdd, Nat.reduceLeDiff, G6, G7, al2, Au, st]
    exact ⟨_, rfl, ⟨by simp only [AE, Nat.reduceLT, Nat.reduceEqDiff, if_true, if_false, reduceIte]; exact v0, by simp only [AE, Nat.reduceLT, Nat.reduceEqDiff, if_true, if_false, reduceIte]; exact v2, by simp [AE], by simp only [AE, Nat.reduceLT, Nat.reduceEqDiff, if_true, if_false, reduceIte]; exact v8⟩, by simp only [AE, Nat.reduceLT, Nat.reduceEqDiff, if_true, if_false, reduceIte]; exact v5, by simp [AE], by simp [AE]⟩
  obtain ⟨e3, p3, S, s5', s10, s11⟩ := pre3
  have refA_is : ∀ r, Fh vm 0 (l.drop (j1 + j2 + j3)) = r → HC l = (match r with | none => none | some (xs, q) => some ((vf : Int), (vt : Int), xs, q)) := fun r hr => by
    unfold HC
    rw [hu1]
    simp only
    rw [if_pos (by omega), hu2]
    simp only
    rw [if_pos (by omega), hu3]
    simp only
    rw [if_pos (by omega), hr]
    all_goals (rcases r with _ | ⟨xs, q⟩ <;> rfl)
  rcases WF (n := n + 2) W V hb hl (Nat.le_refl _) (by omega) (by omega) (by omega) (p3 := j1 + j2 + j3) (by omega) D S s5' s10 s11 with ⟨e4, h4, p, w, zs, q1, D', S', q2, q3⟩ | ⟨e4, h4, q1, q2, q3, q4, q5, q6⟩
  · have hA := refA_is _ q2
    have hA : HC l = some ((vf : Int), (vt : Int), zs, l.drop p) := hA
    have hzl := MW _ _ _ _ _ q2
    have hrunS : ∀ {y : X}, r9E (call AG (n + 3)) e4 h4 = y → JT (call AG (n + 3)) (Ak e0 0 [u]) h = y := fun hy => by
      rw [p1, p2, p3, Sp]
      simp only [BI, Aq, q1, BA, BH]
      exact hy
    rcases aY (n := n) W V hb (Nat.le_refl _) (by omega) (by omega) D' S' (by omega) with ⟨g1, g2, e5, g, g3, g4, g5, g6, g7, g8⟩ | ⟨g1, e5, g, g3, g4, g5, g6, g7⟩
    · left
      refine ⟨_, _, zs, g, w, by rw [← g2]; exact P8 g1, ?_, g6, g8⟩
      rw [Qi rfl, Qy, hrunS g3]
      simp only [AZ, Dh, g4, g5, Aw, g7, FS]
    · right
      refine ⟨D5 hb (fun f t zs' hA' h1 h2 => ?_), g, fin (hrunS g3) g4 g5 g7, g6⟩
      rw [hA] at hA'
      injection hA' with hA'
      injection hA' with i1 hA'
      injection hA' with i2 hA'
      injection hA' with i3 hA'
      exact g1 (by rw [i1, i2, i3]; exact ⟨h1, h2⟩)
  · right
    have hA := refA_is _ q6
    have hA : HC l = none := hA
    refine ⟨D5 hb (fun f t zs' hA' _ _ => by rw [hA] at hA'; cases hA'), h4, fin ?_ q3 q4 q5, q2⟩
    rw [p1, p2, p3, Sp]
    simp only [BI, Aq, q1, BL, Bw]
end
end Go.Proofs.Ytkafejncffinmaa
namespace Go.Proofs.Ytkafejncffinmaa
noncomputable section
open Go
set_option maxRecDepth 100000
def d3 : C :=
(cOp (AC 4) (Bu (AB 0))
(cOp (AC 8) (AD (kV (.bool false)))
(cOp (AC 32) (Ds 3 1 (AB 4) (kV (.int .i64 0)))
(cOp (AC 33) (AH (AB 32))
(cOp (AC 34) (C8 .u8 (AB 33) (kV (.int .u8 20)))
(cOp (AC 35) (BO .i64 (AB 34))
(cOp (AC 36) (A4 .i64 (Ai .i64) (kV (.int .i64 1)) (AB 35))
(cOp (AC 9) (AD (AB 36))
(Bx (cOp (AC 39) (Ds 3 1 (AB 4) (kV (.int .i64 1)))
(cOp (AC 40) (AH (AB 39))
(cOp (AC 41) (BO .i64 (AB 40))
(cOp (AC 43) (C8 .i64 (AB 41) (AB 9))
(cOp (AC 44) (A4 .i64 (Ai .i64) (kV (.int .i64 1)) (AB 43))
(cOp (AC 45) (Ds 3 1 (AB 4) (kV (.int .i64 2)))
(cOp (AC 46) (AH (AB 45))
(cOp (AC 47) (C8 .u8 (AB 46) (kV (.int .u8 40)))
(cOp (AC 48) (BO .i64 (AB 47))
(cOp (AC 49) (A4 .i64 (Ai .i64) (kV (.int .i64 1)) (AB 48))
(cOp (AC 50) (An .free (AQ 7 [(AB 9), (AB 44), (AB 49)]))
(cOp (AC 51) (AJ 0 (AB 50))
(cOp (AC 52) (AJ 1 (AB 50))
(cOp (AC 10) (AD (AB 51))
(cOp (AC 11) (AD (AB 52))
(cOp (AC 54) (AL iNe .i64 (AB 11) (kV (.int .i64 0)))
(AP (AB 54)
(cOp (AC 8) (AD (kV (.bool false)))
Ae)
(cOp (AC 12) (AD (kV (.slice none 0 0)))
(cOp (AC 13) (AD (kV (.int .i64 0)))
(Ar (AX 0 (Ao (cOp (AC 57) (Af (AB 2))
(cOp (AC 58) (AL iLt .i64 (AB 13) (AB 57))
(cG (AB 58) true (AC 60) (AD (AB 13))
(cG (AB 58) true (AC 61) (AL iLt .i64 (AB 60) (kV (.int .i64 60)))
(cOp (AC 62) (AS (AB 58) (AB 61) (kV (.bool false)))
(AP (AB 62)
(Ar (AX 1 (cOp (AC 67) (A9 1 (AB 2) (AB 13))
(cOp (AC 68) (AH (AB 67))
(AP (AB 68)
(cOp (AC 71) (AU 1 (BE ty3.zero 1) [(0, 1, (AB 13))])
(cOp (AC 72) (Az 1 8 3 (AB 12) (AB 71))
(cOp (AC 12) (AD (AB 72))
Ac)))
Ac))))
(cOp (AC 64) (A4 .i64 (Ai .i64) (AB 13) (kV (.int .i64 1)))
(cOp (AC 13) (AD (AB 64))
Ac)))
(A7 0)))))))))
(cOp (AC 74) (C8 .u8 (AB 1) (kV (.int .u8 25)))
(cOp (AC 75) (BO .i64 (AB 74))
(cOp (AC 14) (AD (AB 75))
(cOp (AC 80) (AQ 8 [(AB 10), (AB 14), (kV (.int .i64 30)), (AB 12)])
(cOp (AC 81) (AJ 0 (AB 80))
(cOp (AC 82) (AJ 1 (AB 80))
(cOp (AC 83) (AJ 2 (AB 80))
(cOp (AC 16) (At 3 BB)
(cOp (AC 15) (AD (AB 81))
(cDo (AY 3 (AB 16) (AB 82))
(cOp (AC 17) (AD (AB 83))
(cOp (AC 85) (AL iNe .i64 (AB 17) (kV (.int .i64 0)))
(cG (AB 85) false (AC 87) (AD (AB 15))
(cG (AB 85) false (AC 88) (Af (AB 87))
(cG (AB 85) false (AC 89) (AD (AB 10))
(cG (AB 85) false (AC 90) (Af (AB 89))
(cG (AB 85) false (AC 91) (AL iNe .i64 (AB 88) (AB 90))
(cOp (AC 92) (AS (AB 85) (kV (.bool true)) (AB 91))
(cG (AB 92) false (AC 94) (Aa 3 (AB 16))
(cG (AB 92) false (AC 95) (AQ 9 [(AB 94)])
(cG (AB 92) false (AC 96) (B7 (AB 95))
(cOp (AC 97) (AS (AB 92) (kV (.bool true)) (AB 96))
(AP (AB 97)
(cOp (AC 8) (AD (kV (.bool false)))
Ae)
(cOp (AC 98) K0
(cOp (AC 18) (AD (AB 98))
(cOp (AC 99) (AF 2 (AB 16))
(cOp (AC 100) (AH (AB 99))
(cOp (AC 101) (Af (AB 100))
(cOp (AC 102) (AD (kV (.int .i64 0)))
(Ar (AX 2 (Ao (cOp (AC 103) (AL iLt .i64 (AB 102) (AB 101))
(AP (AB 103)
(Ar (AX 3 (cOp (AC 104) (A9 1 (AB 100) (AB 102))
(cOp (AC 105) (AH (AB 104))
(cOp (AC 20) (AD (AB 105))
(cDo (DG ⟨false, [.i .i64]⟩ (AB 18) (AB 20) (kV (.int .i64 1)))
Ac)))))
(cOp (AC 108) (A4 .i64 (Ai .i64) (AB 102) (kV (.int .i64 1)))
(cOp (AC 102) (AD (AB 108))
Ac)))
(A7 2)))))
(cOp (AC 109) (AD (AB 12))
(cOp (AC 110) (Af (AB 109))
(cOp (AC 111) (AD (kV (.int .i64 0)))
(Ar (AX 4 (Ao (cOp (AC 112) (AL iLt .i64 (AB 111) (AB 110))
(AP (AB 112)
(Ar (AX 5 (cOp (AC 113) (A9 1 (AB 109) (AB 111))
(cOp (AC 114) (AH (AB 113))
(cOp (AC 22) (AD (AB 114))
(cOp (AC 118) (AQ 10 [(AB 10), (AB 22)])
(cOp (AC 119) (AJ 0 (AB 118))
(cOp (AC 120) (AJ 1 (AB 118))
(cOp (AC 23) (At 2 DQ)
(cDo (AY 2 (AB 23) (AB 119))
(cOp (AC 24) (AD (AB 120))
(Bx (cOp (AC 122) (B7 (AB 24))
(cG (AB 122) false (AC 124) (AD (AB 18))
(cG (AB 122) false (AC 125) (AD (AB 22))
(EG (AB 124) (DZ (AB 124) []
(cG (AB 122) false (AC 126) (Cs ⟨false, [.i .i64]⟩ (.int .i64 0) false (AB 124) (AB 125))
(cG (AB 122) false (AC 127) (AL iEq .i64 (AB 126) (kV (.int .i64 1)))
(cG (AB 122) false (AC 128) (Aa 2 (AB 23))
(cG (AB 122) false (AC 129) (AD (AB 14))
(cG (AB 122) false (AC 130) (An .weak (AQ 11 [(AB 128), (AB 129)]))
(cG (AB 122) false (AC 131) (AL iGe .i64 (AB 130) (kV (.int .i64 0)))
(cG (AB 122) false (AC 132) (oEq ty4.k true (AB 127) (AB 131))
(cOp (AC 133) (AS (AB 122) (kV (.bool true)) (AB 132))
(AP (AB 133)
(cOp (AC 8) (AD (kV (.bool false)))
Ae)
Ac)))))))))))))))))))))))))
(cOp (AC 134) (A4 .i64 (Ai .i64) (AB 111) (kV (.int .i64 1)))
(cOp (AC 111) (AD (AB 134))
Ac)))
(A7 4)))))
(cOp (AC 25) (AD (kV (.int .i64 0)))
(Ar (AX 6 (Ao (cOp (AC 136) (AL iLt .i64 (AB 25) (kV (.int .i64 60)))
(cG (AB 136) true (AC 138) (AF 2 (AB 16))
(cG (AB 136) true (AC 139) (AH (AB 138))
(cG (AB 136) true (AC 140) (Af (AB 139))
(cG (AB 136) true (AC 141) (AL iGt .i64 (AB 140) (kV (.int .i64 0)))
(cOp (AC 142) (AS (AB 136) (AB 141) (kV (.bool false)))
(AP (AB 142)
(Ar (AX 7 (cOp (AC 26) (AD (kV (.int .i64 0)))
(cOp (AC 147) (Af (AB 3))
(cOp (AC 148) (AL iLt .i64 (AB 25) (AB 147))
(Ar (AP (AB 148)
(Bx (cOp (AC 151) (A9 1 (AB 3) (AB 25))
(cOp (AC 152) (AH (AB 151))
(cOp (AC 153) (BO .i64 (AB 152))
(cOp (AC 154) (AF 2 (AB 16))
(cOp (AC 155) (AH (AB 154))
(cOp (AC 156) (Af (AB 155))
(cOp (AC 157) (C8 .i64 (AB 153) (AB 156))
(cOp (AC 26) (AD (AB 157))
Ac)))))))))
Ac)
(cOp (AC 158) (AF 2 (AB 16))
(cOp (AC 159) (AH (AB 158))
(cOp (AC 161) (A9 1 (AB 159) (AB 26))
(cOp (AC 162) (AH (AB 161))
(cOp (AC 27) (AD (AB 162))
(cOp (AC 164) (Aa 3 (AB 16))
(cOp (AC 166) (AQ 12 [(AB 164), (AB 27)])
(cOp (AC 167) (AJ 0 (AB 166))
(cOp (AC 168) (AJ 1 (AB 166))
(cOp (AC 28) (At 3 BB)
(cDo (AY 3 (AB 28) (AB 167))
(cOp (AC 29) (AD (AB 168))
(cOp (AC 170) (Aa 3 (AB 28))
(cOp (AC 172) (AQ 12 [(AB 170), (AB 27)])
(cOp (AC 173) (AJ 0 (AB 172))
(cOp (AC 174) (AJ 1 (AB 172))
(cOp (AC 30) (At 3 BB)
(cDo (AY 3 (AB 30) (AB 173))
(cOp (AC 31) (AD (AB 174))
(cOp (AC 176) (AL iNe .i64 (AB 29) (kV (.int .i64 0)))
(cG (AB 176) false (AC 178) (AD (AB 31))
(cG (AB 176) false (AC 179) (AL iNe .i64 (AB 178) (kV (.int .i64 167)))
(cOp (AC 180) (AS (AB 176) (kV (.bool true)) (AB 179))
(cG (AB 180) false (AC 182) (AF 2 (AB 28))
(cG (AB 180) false (AC 183) (AH (AB 182))
(cG (AB 180) false (AC 184) (Af (AB 183))
(cG (AB 180) false (AC 185) (AF 2 (AB 16))
(cG (AB 180) false (AC 186) (AH (AB 185))
(cG (AB 180) false (AC 187) (Af (AB 186))
(cG (AB 180) false (AC 188) (CQ Int.sub .i64 (AB 187) (kV (.int .i64 1)))
(cG (AB 180) false (AC 189) (AL iNe .i64 (AB 184) (AB 188))
(cOp (AC 190) (AS (AB 180) (kV (.bool true)) (AB 189))
(cG (AB 190) false (AC 192) (Aa 3 (AB 28))
(cG (AB 190) false (AC 193) (AQ 9 [(AB 192)])
(cG (AB 190) false (AC 194) (B7 (AB 193))
(cOp (AC 195) (AS (AB 190) (kV (.bool true)) (AB 194))
(cG (AB 195) false (AC 197) (Aa 3 (AB 16))
(cG (AB 195) false (AC 198) (AQ 13 [(AB 197)])
(cOp (AC 199) (AS (AB 195) (kV (.bool true)) (AB 198))
(AP (AB 199)
(cOp (AC 8) (AD (kV (.bool false)))
Ae)
(cOp (AC 200) (Aa 3 (AB 28))
(cDo (AY 3 (AB 16) (AB 200))
Ac)))))))))))))))))))))))))))))))))))))))))))))))
(cOp (AC 144) (A4 .i64 (Ai .i64) (AB 25) (kV (.int .i64 1)))
(cOp (AC 25) (AD (AB 144))
Ac)))
(A7 6))))))))))
(cOp (AC 201) (Aa 3 (AB 16))
(cOp (AC 202) (AQ 13 [(AB 201)])
(cG (AB 202) true (AC 204) (AQ 14 [])
(cOp (AC 205) (AS (AB 202) (AB 204) (kV (.bool false)))
(cOp (AC 8) (AD (AB 205))
Ae))))))))))))))))))))))))))))))))))))))))))))))))))))))))))))))))))))))
def d11 : C :=
(cOp (AC 2) (Bu (AB 0))
(cOp (AC 4) (AD (kV (.int .i64 0)))
(cOp (AC 5) (AF 1 (AB 2))
(cOp (AC 6) (AH (AB 5))
(cOp (AC 8) (AQ 33 [(AB 6), (AB 1)])
(cOp (AC 4) (AD (AB 8))
Ae))))))
theorem YU {n : Nat} {args : List Value} {h : Hp} (hl : Nat.ble (Bk args) 320 = true) : call AG (Nat.succ n) 11 args h = Bs [.t (AB 4)] (d11 (call AG n) (Ak e0 0 args) h) := by
  have hb : AG.get 11 = some b11 := by kernel_rfl
  rw [BM hb]
  have hd : b11 = ⟨[.t (AB 4)], d11⟩ := by kernel_rfl
  rw [hd, BC hl]
def d13 : C :=
(cOp (AC 1) (Bu (AB 0))
(cOp (AC 2) (AD (kV (.bool false)))
(cOp (AC 3) (Aa 3 (AB 1))
(cOp (AC 4) (AQ 9 [(AB 3)])
(cG (AB 4) true (AC 6) (AF 2 (AB 1))
(cG (AB 4) true (AC 7) (AH (AB 6))
(cG (AB 4) true (AC 8) (Af (AB 7))
(cG (AB 4) true (AC 9) (AL iEq .i64 (AB 8) (kV (.int .i64 0)))
(cOp (AC 10) (AS (AB 4) (AB 9) (kV (.bool false)))
(cOp (AC 2) (AD (AB 10))
Ae))))))))))
theorem YV {n : Nat} {args : List Value} {h : Hp} (hl : Nat.ble (Bk args) 320 = true) : call AG (Nat.succ n) 13 args h = Bs [.t (AB 2)] (d13 (call AG n) (Ak e0 0 args) h) := by
  have hb : AG.get 13 = some b13 := by kernel_rfl
  rw [BM hb]
  have hd : b13 = ⟨[.t (AB 2)], d13⟩ := by kernel_rfl
  rw [hd, BC hl]
def d32 : C :=
(cOp (AC 1) (Bu (AB 0))
(cOp (AC 2) (At 2 DQ)
(cOp (AC 3) (AF 1 (AB 1))
(cOp (AC 4) (AH (AB 3))
(cOp (AC 5) (AQ 35 [(AB 4)])
(cOp (AC 6) (AF 1 (AB 1))
(cDo (AY 1 (AB 6) (AB 5))
(cOp (AC 7) (Aa 2 (AB 1))
(cDo (AY 2 (AB 2) (AB 7))
Ae)))))))))
theorem Yd {n : Nat} {args : List Value} {h : Hp} (hl : Nat.ble (Bk args) 320 = true) : call AG (Nat.succ n) 32 args h = Bs [.cN (AB 2) 2] (d32 (call AG n) (Ak e0 0 args) h) := by
  have hb : AG.get 32 = some b32 := by kernel_rfl
  rw [BM hb]
  have hd : b32 = ⟨[.cN (AB 2) 2], d32⟩ := by kernel_rfl
  rw [hd, BC hl]
def d34 : C :=
(cOp (AC 6) (AD (kV (.slice none 0 0)))
(cOp (AC 12) (Af (AB 0))
(cOp (AC 13) (Da 3 1 (AB 0) (some (AB 1)) (some (AB 2)) (some (AB 12)))
(cOp (AC 16) (AL iEq .i64 (AB 1) (AB 2))
(AP (AB 16)
(cOp (AC 6) (AD (AB 0))
Ae)
(cOp (AC 19) (Af (AB 0))
(cOp (AC 7) (AD (AB 19))
(Bx (cOp (AC 22) (Da 3 1 (AB 0) none (some (AB 1)) none)
(cOp (AC 25) (Da 3 1 (AB 0) (some (AB 2)) none none)
(cOp (AC 26) (An .free (Az 1 8 3 (AB 22) (AB 25)))
(cOp (AC 0) (AD (AB 26))
(cOp (AC 29) (Af (AB 0))
(cOp (AC 31) (Da 3 1 (AB 0) (some (AB 29)) (some (AB 7)) none)
(cDo (Hd ty3.zero (AB 31))
(cOp (AC 6) (AD (AB 0))
Ae))))))))))))))))
theorem Yf {n : Nat} {args : List Value} {h : Hp} (hl : Nat.ble (Bk args) 320 = true) : call AG (Nat.succ n) 34 args h = Bs [.t (AB 6)] (d34 (call AG n) (Ak e0 0 args) h) := by
  have hb : AG.get 34 = some b34 := by kernel_rfl
  rw [BM hb]
  have hd : b34 = ⟨[.t (AB 6)], d34⟩ := by kernel_rfl
  rw [hd, BC hl]
def d35 : C :=
(cOp (AC 2) (AD (kV (.slice none 0 0)))
(cOp (AC 4) (oEq N3.k false (AB 0) (kV (.slice none 0 0)))
(AP (AB 4)
(cOp (AC 2) (AD (kV (.slice none 0 0)))
Ae)
(cOp (AC 5) (AU 0 (BE ty3.zero 0) [])
(cOp (AC 7) (Az 1 8 3 (AB 5) (AB 0))
(cOp (AC 2) (AD (AB 7))
Ae))))))
theorem Yg {n : Nat} {args : List Value} {h : Hp} (hl : Nat.ble (Bk args) 320 = true) : call AG (Nat.succ n) 35 args h = Bs [.t (AB 2)] (d35 (call AG n) (Ak e0 0 args) h) := by
  have hb : AG.get 35 = some b35 := by kernel_rfl
  rw [BM hb]
  have hd : b35 = ⟨[.t (AB 2)], d35⟩ := by kernel_rfl
  rw [hd, BC hl]
def d45 : C :=
(cOp (AC 2) (AD (kV (.bool false)))
(cOp (AC 4) (AL iGe .i64 (AB 0) (kV (.int .i64 0)))
(cG (AB 4) true (AC 6) (AD (AB 0))
(cG (AB 4) true (AC 7) (AL iLt .i64 (AB 6) (kV (.int .i64 256)))
(cOp (AC 8) (AS (AB 4) (AB 7) (kV (.bool false)))
(cOp (AC 2) (AD (AB 8))
Ae))))))
theorem Ym {n : Nat} {args : List Value} {h : Hp} (hl : Nat.ble (Bk args) 320 = true) : call AG (Nat.succ n) 45 args h = Bs [.t (AB 2)] (d45 (call AG n) (Ak e0 0 args) h) := by
  have hb : AG.get 45 = some b45 := by kernel_rfl
  rw [BM hb]
  have hd : b45 = ⟨[.t (AB 2)], d45⟩ := by kernel_rfl
  rw [hd, BC hl]
def d47 : C :=
(cOp (AC 2) (AD (kV (.bool false)))
(cOp (AC 4) (Af (AB 0))
(cOp (AC 5) (AL iGe .i64 (AB 4) (kV (.int .i64 1)))
(cG (AB 5) true (AC 7) (AD (AB 0))
(cG (AB 5) true (AC 8) (Af (AB 7))
(cG (AB 5) true (AC 9) (AL iLe .i64 (AB 8) (kV (.int .i64 1000)))
(cOp (AC 10) (AS (AB 5) (AB 9) (kV (.bool false)))
(cG (AB 10) true (AC 12) (AD (AB 0))
(cG (AB 10) true (AC 13) (AQ 48 [(AB 12), (kV (.func (.func 51) #[] #[]))])
(cG (AB 10) true (AC 14) (B7 (AB 13))
(cOp (AC 15) (AS (AB 10) (AB 14) (kV (.bool false)))
(cOp (AC 2) (AD (AB 15))
Ae))))))))))))
theorem Qn {n : Nat} {args : List Value} {h : Hp} (hl : Nat.ble (Bk args) 320 = true) : call AG (Nat.succ n) 47 args h = Bs [.t (AB 2)] (d47 (call AG n) (Ak e0 0 args) h) := by
  have hb : AG.get 47 = some b47 := by kernel_rfl
  rw [BM hb]
  have hd : b47 = ⟨[.t (AB 2)], d47⟩ := by kernel_rfl
  rw [hd, BC hl]
def d48 : C :=
(cOp (AC 4) (AD (kV (.bool false)))
(cOp (AC 7) (AQ 53 [(AB 0), (AB 1)])
(cOp (AC 8) (AL iGe .i64 (AB 7) (kV (.int .i64 0)))
(cOp (AC 4) (AD (AB 8))
Ae))))
theorem Qo {n : Nat} {args : List Value} {h : Hp} (hl : Nat.ble (Bk args) 320 = true) : call AG (Nat.succ n) 48 args h = Bs [.t (AB 4)] (d48 (call AG n) (Ak e0 0 args) h) := by
  have hb : AG.get 48 = some b48 := by kernel_rfl
  rw [BM hb]
  have hd : b48 = ⟨[.t (AB 4)], d48⟩ := by kernel_rfl
  rw [hd, BC hl]
def d51 : C :=
(cOp (AC 1) (Bu (AB 0))
(cOp (AC 2) (AD (kV (.bool false)))
(cOp (AC 3) (Aa 2 (AB 1))
(cOp (AC 4) (AQ 52 [(AB 3), (kV (.int .i64 256))])
(cOp (AC 5) (B7 (AB 4))
(cOp (AC 2) (AD (AB 5))
Ae))))))
theorem Yo {n : Nat} {args : List Value} {h : Hp} (hl : Nat.ble (Bk args) 320 = true) : call AG (Nat.succ n) 51 args h = Bs [.t (AB 2)] (d51 (call AG n) (Ak e0 0 args) h) := by
  have hb : AG.get 51 = some b51 := by kernel_rfl
  rw [BM hb]
  have hd : b51 = ⟨[.t (AB 2)], d51⟩ := by kernel_rfl
  rw [hd, BC hl]
def d55 : C :=
(cOp (AC 4) (AD (kV (.bool false)))
(cOp (AC 7) (AQ 33 [(AB 0), (AB 1)])
(cOp (AC 8) (AL iGe .i64 (AB 7) (kV (.int .i64 0)))
(cOp (AC 4) (AD (AB 8))
Ae))))
theorem Yp {n : Nat} {args : List Value} {h : Hp} (hl : Nat.ble (Bk args) 320 = true) : call AG (Nat.succ n) 55 args h = Bs [.t (AB 4)] (d55 (call AG n) (Ak e0 0 args) h) := by
  have hb : AG.get 55 = some b55 := by kernel_rfl
  rw [BM hb]
  have hd : b55 = ⟨[.t (AB 4)], d55⟩ := by kernel_rfl
  rw [hd, BC hl]
end
end Go.Proofs.Ytkafejncffinmaa
set_option linter.unusedVariables false
set_option linter.unusedSimpArgs false
namespace Go.Proofs.Ytkafejncffinmaa
noncomputable section
open Go
set_option maxRecDepth 100000
theorem Gk {zs : List Int} {i : Nat} (hlt : i < zs.length) : zs.drop i = zs.getD i 0 :: zs.drop (i + 1) := by
  rw [List.drop_eq_getElem_cons hlt, List.getD_eq_getElem?_getD, List.getElem?_eq_getElem hlt]; rfl
def C1 (x : Int) : Nat → List Int → Int
  | _, [] => -1
  | i, z :: l => if x = z then (i : Int) else C1 x (i + 1) l
theorem IB (x : Int) : ∀ (zs : List Int) (i : Nat), (x ∉ zs ∧ C1 x i zs = -1) ∨ (x ∈ zs ∧ ∃ k, k < zs.length ∧ C1 x i zs = ((i + k : Nat) : Int) ∧ zs.getD k 0 = x)
  | [], i => .inl ⟨fun h => (by cases h), rfl⟩
  | z :: l, i => by
    unfold C1
    by_cases h : x = z
    · rw [if_pos h]
      exact .inr ⟨by rw [h]; exact List.mem_cons_self, 0, Nat.succ_pos _, rfl, h.symm⟩
    · rw [if_neg h]
      rcases IB x l (i + 1) with ⟨h1, h2⟩ | ⟨h1, k, h2, h3, h4⟩
      · refine .inl ⟨fun hx => ?_, h2⟩
        rcases List.mem_cons.1 hx with hx | hx
        · exact h hx
        · exact h1 hx
      · exact .inr ⟨List.mem_cons_of_mem _ h1, k + 1, Nat.succ_lt_succ h2, by rw [h3]; congr 1; omega, h4⟩
theorem OX (x : Int) (zs : List Int) : (0 ≤ C1 x 0 zs) ↔ x ∈ zs := by
  rcases IB x zs 0 with ⟨h1, h2⟩ | ⟨h1, k, _, h3, _⟩
  · rw [h2]; exact ⟨fun h => by omega, fun h => absurd h h1⟩
  · rw [h3]; exact ⟨fun _ => h1, fun _ => by omega⟩
theorem OY {x : Int} {zs : List Int} (h : x ∉ zs) : C1 x 0 zs = -1 := by
  rcases IB x zs 0 with ⟨_, h2⟩ | ⟨h1, _⟩
  · exact h2
  · exact absurd h1 h
theorem Ki {x : Int} {zs : List Int} (h : x ∈ zs) : ∃ k, k < zs.length ∧ C1 x 0 zs = (k : Int) ∧ zs.getD k 0 = x := by
  rcases IB x zs 0 with ⟨h1, _⟩ | ⟨_, k, h2, h3, h4⟩
  · exact absurd h h1
  · exact ⟨k, h2, by rw [h3, Nat.zero_add], h4⟩
theorem FU (x : Int) (zs : List Int) : iGe (C1 x 0 zs) 0 = decide (x ∈ zs) := by
  rw [Cl, decide_eq_decide]; exact OX x zs
def ixB : C := (cOp (AC 9) (AL iLt .i64 (AB 8) (AB 7))
(AP (AB 9)
(Ar (AX 1 (cOp (AC 5) (AD (AB 8))
(cOp (AC 14) (A9 1 (AB 0) (AB 5))
(cOp (AC 15) (AH (AB 14))
(cOp (AC 16) (AL iEq .i64 (AB 1) (AB 15))
(AP (AB 16)
(cOp (AC 4) (AD (AB 5))
Ae)
Ac))))))
(cOp (AC 18) (A4 .i64 (Ai .i64) (AB 8) (kV (.int .i64 1)))
(cOp (AC 8) (AD (AB 18))
Ac)))
(A7 0)))
def ixE : C := (cOp (AC 4) (AD (kV (.int .i64 (-1))))
Ae)
def ixS : C := (Ar (AX 0 (Ao (cOp (AC 9) (AL iLt .i64 (AB 8) (AB 7))
(AP (AB 9)
(Ar (AX 1 (cOp (AC 5) (AD (AB 8))
(cOp (AC 14) (A9 1 (AB 0) (AB 5))
(cOp (AC 15) (AH (AB 14))
(cOp (AC 16) (AL iEq .i64 (AB 1) (AB 15))
(AP (AB 16)
(cOp (AC 4) (AD (AB 5))
Ae)
Ac))))))
(cOp (AC 18) (A4 .i64 (Ai .i64) (AB 8) (kV (.int .i64 1)))
(cOp (AC 8) (AD (AB 18))
Ac)))
(A7 0)))))
(cOp (AC 4) (AD (kV (.int .i64 (-1))))
Ae))
theorem aB : ixS = Ar (AX 0 (Ao ixB)) ixE := rfl
def UB : C := (cOp (AC 4) (AD (kV (.int .i64 0)))
(cOp (AC 7) (Af (AB 0))
(cOp (AC 8) (AD (kV (.int .i64 0)))
ixS)))
def d33 : C := UB
theorem Ye {n : Nat} {args : List Value} {h : Hp} (hl : Nat.ble (Bk args) 320 = true) : call AG (Nat.succ n) 33 args h = Bs [.t (AB 4)] (d33 (call AG n) (Ak e0 0 args) h) := by
  have hb : AG.get 33 = some b33 := by kernel_rfl
  rw [BM hb]
  have hd : b33 = ⟨[.t (AB 4)], d33⟩ := by kernel_rfl
  rw [hd, BC hl]
theorem Y1 : d33 = UB := rfl
theorem Us {F : CallF} {h : Hp} {u : Value} {zs : List Int} {x : Int} (V : h.Vals u (ints .i64 zs)) (hl : zs.length < 900000) {e : Env} (s0 : AB 0 e = u) (s1 : AB 1 e = .int .i64 x) (s7 : AB 7 e = .int .i64 (zs.length : Int)) (s8 : AB 8 e = .int .i64 0) :
    (∃ e', Ao ixB F e h = .exit 0 e' h ∧ C1 x 0 zs = -1) ∨ (∃ e', Ao ixB F e h = .ret e' h ∧ AB 4 e' = .int .i64 (C1 x 0 zs)) := by
  refine Bo (I := fun i e' h' => h' = h ∧ AB 0 e' = u ∧ AB 1 e' = .int .i64 x ∧ AB 7 e' = .int .i64 (zs.length : Int) ∧ AB 8 e' = .int .i64 (i : Int) ∧ i ≤ zs.length ∧ C1 x 0 zs = C1 x i (zs.drop i))
    (Q := fun y => (∃ e', y = .exit 0 e' h ∧ C1 x 0 zs = -1) ∨ (∃ e', y = .ret e' h ∧ AB 4 e' = .int .i64 (C1 x 0 zs))) zs.length (by omega) (fun i e' h' ⟨hh, t0, t1, t7, t8, hi, hr⟩ => ?_)
    ⟨rfl, s0, s1, s7, s8, Nat.zero_le _, rfl⟩
  subst hh
  by_cases hlt : i < zs.length
  · obtain ⟨a, g1, g2⟩ := V.int hlt
    have hd : zs.drop i = zs.getD i 0 :: zs.drop (i + 1) := by
      rw [List.drop_eq_getElem_cons hlt, List.getD_eq_getElem?_getD, List.getElem?_eq_getElem hlt]; rfl
    rw [hd] at hr
    generalize zs.getD i 0 = z at g2 hr
    have hr : C1 x 0 zs = if x = z then (i : Int) else C1 x (i + 1) (zs.drop (i + 1)) := hr
    have c1 : iLt (i : Int) (zs.length : Int) = true := by rw [As]; simp; omega
    by_cases hx : x = z
    · right
      have c2 : iEq x z = true := by rw [B6]; simpa using hx
      have hrun : ∃ e2, ixB F e' h' = .ret e2 h' ∧ AB 4 e2 = .int .i64 (i : Int) := by
        unfold ixB
        simp only [sT, Nat.reduceLT, Nat.reduceEqDiff, if_true, if_false, reduceIte, AO, AN, t8, t7, c1, BV, t0, g1, Ab, g2, t1, c2]
        exact ⟨_, rfl, by simp [AE]⟩
      obtain ⟨e2, r1, r2⟩ := hrun
      rw [r1]
      refine ⟨rfl, .inr ⟨e2, rfl, ?_⟩⟩
      rw [r2, hr, if_pos hx]
    · left
      have c2 : iEq x z = false := by rw [B6]; simpa using hx
      have a3 : Ci .i64 (.int .i64 (i : Int)) (.int .i64 1) h' = .ok (.int .i64 ((i + 1 : Nat) : Int)) h' := by
        have : (i : Int) + 1 = ((i + 1 : Nat) : Int) := by omega
        rw [Bc, this, BJ (by omega)]
      have hrun : ∃ e2, ixB F e' h' = .norm e2 h' ∧ AB 0 e2 = u ∧ AB 1 e2 = .int .i64 x ∧ AB 7 e2 = .int .i64 (zs.length : Int) ∧ AB 8 e2 = .int .i64 ((i + 1 : Nat) : Int) := by
        unfold ixB
        simp only [sT, Nat.reduceLT, Nat.reduceEqDiff, if_true, if_false, reduceIte, AO, AN, t8, t7, c1, BV, t0, g1, Ab, g2, t1, c2, Bb, a3]
        exact ⟨_, rfl, by simp only [AE, Nat.reduceLT, Nat.reduceEqDiff, if_true, if_false, reduceIte]; exact t0, by simp only [AE, Nat.reduceLT, Nat.reduceEqDiff, if_true, if_false, reduceIte]; exact t1, by simp only [AE, Nat.reduceLT, Nat.reduceEqDiff, if_true, if_false, reduceIte]; exact t7, by simp [AE]⟩
      obtain ⟨e2, r1, r2, r3, r4, r5⟩ := hrun
      rw [if_neg hx] at hr
      exact ⟨hlt, e2, h', r1, rfl, r2, r3, r4, r5, hlt, hr⟩
  · right
    have c1 : iLt (i : Int) (zs.length : Int) = false := by rw [As]; simp; omega
    have hrun : ∃ e2, ixB F e' h' = .exit 0 e2 h' := by
      unfold ixB
      simp only [sT, Nat.reduceLT, Nat.reduceEqDiff, if_true, if_false, reduceIte, AO, AN, t8, t7, c1]
      exact ⟨_, rfl⟩
    obtain ⟨e2, r1⟩ := hrun
    rw [r1]
    refine ⟨rfl, .inl ⟨e2, rfl, ?_⟩⟩
    rw [hr, List.drop_of_length_le (by omega)]; rfl
theorem Gw {n : Nat} {h : Hp} {u : Value} {zs : List Int} {x : Int} (V : h.Vals u (ints .i64 zs)) (hl : zs.length < 900000) : call AG (n + 1) 33 [u, .int .i64 x] h = .ok (.int .i64 (C1 x 0 zs)) h := by
  have pre : ∃ e1, UB (call AG n) (Ak e0 0 [u, .int .i64 x]) h = ixS (call AG n) e1 h ∧ AB 0 e1 = u ∧ AB 1 e1 = .int .i64 x ∧ AB 7 e1 = .int .i64 (zs.length : Int) ∧ AB 8 e1 = .int .i64 0 := by
    unfold UB
    simp only [AK, AM, Nat.succ_eq_add_one, Nat.zero_add, Nat.reduceAdd, BX, BZ, A5, Br, AE, Nat.reduceLT, Nat.reduceEqDiff, if_true, if_false, reduceIte, Al, V.ilen]
    exact ⟨_, rfl, by simp [AE], by simp [AE], by simp [AE], by simp [AE]⟩
  obtain ⟨e1, p1, p0, pp1, p7, p8⟩ := pre
  rw [Ye rfl, Y1, p1, aB]
  rcases Us (F := call AG n) V hl p0 pp1 p7 p8 with ⟨e2, q1, q2⟩ | ⟨e2, q1, q2⟩
  · simp only [BI, Aq, q1, BA, BH]
    unfold ixE
    simp only [sT, Nat.reduceLT, Nat.reduceEqDiff, if_true, if_false, reduceIte, AZ, Ap, q2]
  · simp only [BI, Aq, q1, BL, Bw, AZ, Ap, q2]
theorem LQ {n : Nat} {h : Hp} {u : Value} {zs : List Int} {x : Int} (V : h.Vals u (ints .i64 zs)) (hl : zs.length < 900000) : call AG (n + 2) 55 [u, .int .i64 x] h = .ok (.bool (decide (x ∈ zs))) h := by
  have k1 := Gw (n := n) (x := x) V hl
  rw [Yp rfl]
  unfold d55
  simp only [AK, AM, Nat.succ_eq_add_one, Nat.zero_add, Nat.reduceAdd, sT, Nat.reduceLT, Nat.reduceEqDiff, if_true, if_false, reduceIte, Ah, AV, Ad, k1, AO, AN, FU, AZ, Ap]
def plV (e : Int) (w : Value) : Value := .agg ⟨[.int .i64 e, w]⟩
theorem GY {F : CallF} {h : Hp} (W : h.Wf) {ep : Int} {w : Value} {g : O} {e : Env} (he : g e = plV ep w) : Bu g F e h = .ok (.pointer (some ⟨h.next, 0, none⟩)) (h.pushRow 0 [.int .i64 ep, w]) := by
  rw [DF, he, DD W]; rfl
theorem DK {h : Hp} (W : h.Wf) {ep : Int} {w : Value} : h.Ext (h.pushRow 0 [.int .i64 ep, w]) := (Hp.Ext.refl W).pushRow _ _
theorem Hg {n : Nat} {h : Hp} (W : h.Wf) {ep : Int} {w : Value} {zs : List Int} {x : Int} (V : h.Vals w (ints .i64 zs)) (hl : zs.length < 900000) : call AG (n + 2) 11 [plV ep w, .int .i64 x] h = .ok (.int .i64 (C1 x 0 zs)) (h.pushRow 0 [.int .i64 ep, w]) := by
  have R := Hp.Row.new W 0 [.int .i64 ep, w]
  have x1 := DK W (ep := ep) (w := w)
  have hbx : ∀ e : Env, AB 0 e = plV ep w → Bu (AB 0) (call AG (n + 1)) e h = .ok (.pointer (some ⟨h.next, 0, none⟩)) (h.pushRow 0 [.int .i64 ep, w]) := fun e he => GY W he
  generalize h.pushRow 0 [.int .i64 ep, w] = h1 at R x1 hbx
  have l1 : load1 ⟨h.next, 1, none⟩ h1 = .ok w h1 := R.load1 (off := 1) (by simp)
  have k1 := Gw (n := n) (x := x) (V.ext W x1) hl
  rw [YU rfl]
  unfold d11
  simp only [AK, AM, Nat.succ_eq_add_one, Nat.zero_add, Nat.reduceAdd, sT, Nat.reduceLT, Nat.reduceEqDiff, if_true, if_false, reduceIte, hbx, AW, Aj, Ab, Am, l1, Ah, AV, Ad, k1, AZ, Ap]
theorem fu : ∃ e, N3.k = .slice e := ⟨3, by kernel_rfl⟩
theorem aL {F : CallF} {e : Env} {h : Hp} {a : Addr} {n c : Nat} {g : O} (hg : g e = .slice (some a) n c) : oEq N3.k false g (kV (.slice none 0 0)) F e h = .ok (.bool false) h := by
  obtain ⟨t, ht⟩ := fu
  show (match eqV N3.k (g e) (.slice none 0 0) with | some r => okB (false != r) h | none => .no) = _
  rw [ht, hg]
  exact JC
theorem Kf {h0 h : Hp} {eb en k b : Nat} {u : Value} {ys : List Value} (x0 : h0.Ext h) (hk2 : k ≤ h.next) (r : h.Row b 0 []) (y : h.Vals u ys) (hy : 0 < ys.length) (ha : CR ys = true) (hm : (ys.length + 1) * (eb + 1) ≤ 1099511627776) :
    ∃ h' v', Gd 1 eb en (.slice (some ⟨b, 0, none⟩) 0 0) u h = .ok v' h' ∧ h0.Ext h' ∧ h'.Own k en v' ys ∧ h'.next = h.next + 1 ∧ ∀ b el L, h.Row b el L → h'.Row b el L ∧ ¬ B2 v' b := by
  have W := x0.wf
  obtain ⟨cc, hcc, hl⟩ := r.rowOf
  obtain ⟨t, h2, h3⟩ := EP ys cc [] 0 hl (.inr rfl)
  have h3 : t.Is ys := by simpa using h3
  refine ⟨h.push (.cells t ys.length (en + 1)), .slice (some ⟨h.next, 0, none⟩) ys.length ys.length, ?_, x0.push _, .inr ⟨h.next, rfl, ⟨t, by rw [W.push_get, if_pos rfl], h3⟩, hk2, W.big⟩, rfl, fun b' el' L' r' => ⟨r'.push W _, Dp (by have := r'.lt W; omega)⟩⟩
  unfold Gd Dn
  simp only [y.lenV, y.src rfl, Av, Nat.add_eq, Nat.zero_add]
  have e1 : Nat.ble ys.length 0 = false := by
    cases e : Nat.ble ys.length 0
    · rfl
    · have := A0.1 e; omega
  have e2 : Nat.ble (Nat.mul (Nat.succ ys.length) (Nat.succ eb)) most = true := A0.2 hm
  rw [e1]
  simp only [e2, cond_true, ha]
  unfold Gt
  have hcc : rowOf h b = .ok cc 0 0 := hcc
  have e3 : Nat.beq 0 (Nat.mul 0 1) = true := rfl
  simp only [hcc, e3, h2]
  unfold Em
  simp only [hcc, Bh, Nat.add_eq, Nat.zero_add]
  unfold CX
  rw [Av, DO W]; rfl
theorem LT {F : CallF} {e : Env} {h : Hp} (W : h.Wf) : AU 0 (BE ty3.zero 0) [] F e h = .ok (.slice (some ⟨h.next, 0, none⟩) 0 0) (h.pushRow 0 []) := by
  have : BE ty3.zero 0 = [] := rfl
  rw [this, EW, BU, FI W]; rfl
theorem LO {n : Nat} {h0 h : Hp} {k : Nat} (x0 : h0.Ext h) (hk2 : k ≤ h.next) {u : Value} {zs : List Int} (V : h.Vals u (ints .i64 zs)) (hz : 0 < zs.length) (hl : zs.length < 900000) : ∃ h' v, call AG (n + 1) 35 [u] h = .ok v h' ∧ h0.Ext h' ∧ h'.Own k 3 v (ints .i64 zs) ∧ h.next ≤ h'.next ∧ ∀ b el L, h.Row b el L → h'.Row b el L ∧ ¬ B2 v b := by
  have W := x0.wf
  have x1 := x0.pushRow 0 []
  have y1 := (Hp.Ext.refl W).pushRow 0 []
  have R := Hp.Row.new W 0 []
  have n1 : (h.pushRow 0 []).next = h.next + 1 := rfl
  have es := fun (e : Env) => LT (F := call AG n) (e := e) W
  generalize h.pushRow 0 [] = h1 at x1 y1 R n1 es
  obtain ⟨h2, v, a1, a2, a3, a4, a5⟩ := Kf (eb := 8) (en := 3) (k := k) x1 (by omega) R (V.ext W y1) (by rw [BG]; exact hz) (Du _ _) (by rw [BG]; omega)
  obtain ⟨a, c, hu⟩ : ∃ a c, u = .slice (some a) zs.length c := by
    rcases V with ⟨_, h2⟩ | ⟨b, off, c, el, L, h1, _⟩
    · have := congrArg List.length h2
      rw [BG, List.length_nil] at this; omega
    · rw [BG] at h1; exact ⟨_, _, h1⟩
  have ne : ∀ e : Env, AB 0 e = u → oEq N3.k false (AB 0) (kV (.slice none 0 0)) (call AG n) e h = .ok (.bool false) h := fun e he => aL (he.trans hu)
  refine ⟨h2, v, ?_, a2, a3, by omega, fun b el L r => a5 b el L (r.ext W y1)⟩
  rw [Yg rfl]
  unfold d35
  simp only [AK, AM, Nat.succ_eq_add_one, Nat.zero_add, Nat.reduceAdd, sT, Nat.reduceLT, Nat.reduceEqDiff, if_true, if_false, reduceIte, ne, es, Bv, a1, AZ, Ap]
theorem PO {e : Env} {h h' : Hp} {g : O} {n : Nat} {v : Value} (hv : FV n (g e) h = .ok v h') : EC [.cN g n] e h = .ok v h := by
  have h1 : EK e h (.cN g n) = .ok v h' := hv
  show (match EK e h (.cN g n) with | .ok v _ => forceV v fun v => F5 h [v] | .no => .no) = _
  rw [h1]
  simp only [BF]; rfl
theorem LC : CS .mt 0 [.int .i64 0, .slice none 0 0] = some DQ := by kernel_rfl
theorem WC {x y u : Value} : over [x, y] 0 [u] = [u, y] := rfl
theorem WD {x y u : Value} : over [x, y] 1 [u] = [x, u] := rfl
theorem aV {n : Nat} {h0 h : Hp} {k : Nat} (x0 : h0.Ext h) (hk2 : k ≤ h.next) {ep : Int} {u : Value} {zs : List Int} (V : h.Vals u (ints .i64 zs)) (hz : 0 < zs.length) (hl : zs.length < 900000) :
    ∃ h' w, call AG (n + 2) 32 [plV ep u] h = .ok (plV ep w) h' ∧ h0.Ext h' ∧ h'.Own k 3 w (ints .i64 zs) ∧ h.next ≤ h'.next ∧ ∀ b el L, h.Row b el L → h'.Row b el L ∧ ¬ B2 w b := by
  have W := x0.wf
  have R := Hp.Row.new W 0 [.int .i64 ep, u]
  have x1 := x0.pushRow 0 [.int .i64 ep, u]
  have y1 := DK W (ep := ep) (w := u)
  have n1 : (h.pushRow 0 [.int .i64 ep, u]).next = h.next + 1 := rfl
  have hbx : ∀ e : Env, AB 0 e = plV ep u → Bu (AB 0) (call AG (n + 1)) e h = .ok (.pointer (some ⟨h.next, 0, none⟩)) (h.pushRow 0 [.int .i64 ep, u]) := fun e he => GY W he
  generalize h.pushRow 0 [.int .i64 ep, u] = h1 at R x1 y1 n1 hbx
  have x2 := x1.push (.cells DQ 2 0)
  have y2 := y1.push (.cells DQ 2 0)
  have S : (h1.push (.cells DQ 2 0)).Row h1.next 0 [.int .i64 0, .slice none 0 0] := Hp.Row.alloc x1.wf LC rfl
  have al := fun (e : Env) => Bz (F := call AG (n + 1)) (e := e) (n := 2) (t := DQ) x1.wf
  have n2 : (h1.push (.cells DQ 2 0)).next = h1.next + 1 := rfl
  have R2 := R.push x1.wf (.cells DQ 2 0)
  generalize h1.push (.cells DQ 2 0) = h2 at x2 y2 S al n2 R2
  have l1 : load1 ⟨h.next, 1, none⟩ h2 = .ok u h2 := R2.load1 (off := 1) (by simp)
  obtain ⟨h3, w, c1, c2, c3, c4, c5⟩ := LO (n := n) x2 (k := k) (by omega) (V.ext W y2) hz hl
  have R3 := (c5 _ _ _ R2).1
  have S3 := (c5 _ _ _ S).1
  have big := W.big
  obtain ⟨w1, w2⟩ : cellsOf w = [w] ∧ Bl w = true := by
    rcases c3 with ⟨rfl, _⟩ | ⟨c, rfl, _⟩ <;> exact ⟨rfl, rfl⟩
  have apart : ∀ b L, h3.Row b 0 L → ¬ B2 w b := fun b L r => by
    rcases c3 with ⟨rfl, _⟩ | ⟨c, rfl, rc, _⟩
    · exact DS
    · refine Dp fun hbc => ?_
      subst hbc
      obtain ⟨_, e1, _⟩ := r
      obtain ⟨_, e2, _⟩ := rc
      rw [e1] at e2
      injection e2 with _ _ e3
      omega
  have st1 := R3.storeR (n := 1) (off := 1) c2.wf (by omega) (v := w) (by rw [w1]; rfl) (by rw [w1]; simp) (by rw [w1]; show (bif Bl w then true else false) = true; rw [w2]; rfl)
  rw [w1] at st1
  have R4 := R3.wr_self c2.wf (off := 1) (vs := [w]) (by simp)
  have o4 : ∀ b el L, b ≠ h.next → h3.Row b el L → (h3.wr h.next 1 [w]).Row b el L := fun b el L hne r => R3.wr_other c2.wf (off := 1) (vs := [w]) (by simp) r hne
  have x4 := R3.wr_ext c2 (by have := x0.next; omega) (off := 1) (vs := [w]) (by simp)
  have n4 := R3.wr_next (off := 1) (vs := [w]) (by simp)
  have S4 := o4 _ _ _ (by omega) S3
  have O4 : (h3.wr h.next 1 [w]).Own k 3 w (ints .i64 zs) := c3.keep fun b el L hbk r => o4 b el L (fun hx => apart _ _ R3 (hx ▸ hbk)) r
  have apart4 : ∀ b L, (h3.wr h.next 1 [w]).Row b 0 L → ¬ B2 w b := fun b L r => by
    rcases O4 with ⟨rfl, _⟩ | ⟨c, rfl, rc, _⟩
    · exact DS
    · refine Dp fun hbc => ?_
      subst hbc
      obtain ⟨_, e1, _⟩ := r
      obtain ⟨_, e2, _⟩ := rc
      rw [e1] at e2
      injection e2 with _ _ e3
      omega
  generalize h3.wr h.next 1 [w] = h4 at st1 R4 o4 x4 n4 S4 O4 apart4
  have R4 : h4.Row h.next 0 [.int .i64 ep, w] := R4
  have l2 : loadN 2 ⟨h.next, 0, none⟩ h4 = .ok (plV ep w) h4 := R4.loadN (by simp)
  have st2 := S4.storeR (n := 2) (off := 0) x4.wf (by omega) (v := plV ep w) rfl (by simp [plV, Ax]) (by show (bif Bl w then true else false) = true; rw [w2]; rfl)
  have S5 := S4.wr_self x4.wf (off := 0) (vs := cellsOf (plV ep w)) (by simp [plV, Ax])
  have o5 : ∀ b el L, b ≠ h1.next → h4.Row b el L → (h4.wr h1.next 0 (cellsOf (plV ep w))).Row b el L := fun b el L hne r => S4.wr_other x4.wf (off := 0) (vs := cellsOf (plV ep w)) (by simp [plV, Ax]) r hne
  have x5 := S4.wr_ext x4 (by have := x0.next; omega) (off := 0) (vs := cellsOf (plV ep w)) (by simp [plV, Ax])
  have n5 := S4.wr_next (off := 0) (vs := cellsOf (plV ep w)) (by simp [plV, Ax])
  have l3 : loadN 2 ⟨h1.next, 0, none⟩ (h4.wr h1.next 0 (cellsOf (plV ep w))) = .ok (plV ep w) _ := S5.loadN (by simp [over, plV, Ax])
  refine ⟨_, w, ?_, x5, O4.keep fun b el L hbk r => o5 b el L (fun hx => apart4 _ _ S4 (hx ▸ hbk)) r, by omega, fun b el L r => ?_⟩
  · rw [Yd rfl]
    unfold d32
    simp only [AK, AM, Nat.succ_eq_add_one, Nat.zero_add, Nat.reduceAdd, sT, Nat.reduceLT, Nat.reduceEqDiff, if_true, if_false, reduceIte, hbx, al, AW, Aj, Ab, Am, l1, Ah, AV, Ad, c1, Au, st1, Ay, Aw, l2, st2, AZ]
    rw [PO (v := plV ep w) (h' := h4.wr h1.next 0 (cellsOf (plV ep w))) (by simp only [AE, Nat.reduceLT, Nat.reduceEqDiff, if_true, if_false, reduceIte]; exact l3)]
  · have hb := r.lt W
    have := c5 b el L (r.ext W y2)
    exact ⟨o5 b el L (by omega) (o4 b el L (by omega) this.1), this.2⟩
end
end Go.Proofs.Ytkafejncffinmaa
set_option linter.unusedVariables false
set_option linter.unusedSimpArgs false
namespace Go.Proofs.Ytkafejncffinmaa
noncomputable section
open Go
set_option maxRecDepth 100000
abbrev Pw := Int × Value × List Int
def CC : List Pw → List Value
  | [] => []
  | x :: l => .int .i64 x.1 :: x.2.1 :: CC l
theorem Dj : ∀ ws : List Pw, (CC ws).length = 2 * ws.length
  | [] => rfl
  | x :: l => by
    show (CC l).length + 1 + 1 = 2 * (l.length + 1)
    rw [Dj l]; omega
theorem Lg : ∀ (ws : List Pw) (i : Nat) (x : Pw), ws[i]? = some x → ((CC ws).drop (i * 2)).take 2 = [.int .i64 x.1, x.2.1]
  | [], i, x, h => by cases h
  | y :: l, 0, x, h => by cases h; rfl
  | y :: l, i + 1, x, h => by
    have := Lg l i x h
    rw [show (i + 1) * 2 = i * 2 + 1 + 1 by omega]
    exact this
theorem FD (a b : List Pw) : CC (a ++ b) = CC a ++ CC b := by
  induction a with
  | nil => rfl
  | cons x l ih => show _ :: _ :: CC (l ++ b) = _; rw [ih]; rfl
theorem Cy {h : Hp} {b b' el el' : Nat} {L L' : List Value} (r : h.Row b el L) (r' : h.Row b' el' L') (he : el ≠ el') : b ≠ b' := fun hb => by
  subst hb
  obtain ⟨_, e1, _⟩ := r
  obtain ⟨_, e2, _⟩ := r'
  rw [e1] at e2
  injection e2 with _ _ e3
  exact he e3
theorem Hp.Vals.cells1 {h : Hp} {v : Value} {l : List Value} (b : h.Vals v l) : cellsOf v = [v] ∧ Bl v = true := by
  obtain ⟨a, c, rfl⟩ := b.shape
  exact ⟨rfl, rfl⟩
theorem Hp.Own.other {h : Hp} {k en b el : Nat} {v : Value} {xs L : List Value} (o : h.Own k en v xs) (r : h.Row b el L) (he : el ≠ en + 1) : ¬ B2 v b := by
  rcases o with ⟨rfl, _⟩ | ⟨c, rfl, rc, _⟩
  · exact DS
  · exact Dp (Cy r rc he)
theorem Hp.Own.at {h : Hp} {k en : Nat} {v : Value} {xs : List Value} (o : h.Own k en v xs) (hx : 0 < xs.length) : ∃ b, v = .slice (some ⟨b, 0, none⟩) xs.length xs.length := by
  rcases o with ⟨_, rfl⟩ | ⟨b, h1, _⟩
  · cases hx
  · exact ⟨b, h1⟩
def Hp.Nod (h : Hp) (u : Value) (zs : List Int) : Prop := (u = .slice none 0 0 ∧ zs = []) ∨ (∃ b c el L, u = .slice (some ⟨b, 0, none⟩) zs.length c ∧ zs.length ≤ c ∧ h.Row b el L ∧ zs.length ≤ L.length ∧ L.take zs.length = ints .i64 zs) ∨ (u = .chan (some 0) ∧ zs = [])
theorem Hp.Nod.vals {h : Hp} {u : Value} {zs : List Int} (o : h.Nod u zs) (hz : 0 < zs.length) : h.Vals u (ints .i64 zs) := by
  rcases o with ⟨h1, rfl⟩ | ⟨b, c, el, L, h1, h2, h3, h4, h5⟩ | ⟨_, rfl⟩
  · exact .inl ⟨h1, rfl⟩
  · exact .inr ⟨b, 0, c, el, L, by rw [BG]; exact h1, h3, by rw [BG]; omega, by rw [BG]; exact h5⟩
  · cases hz
theorem Hp.Nod.ilen {h : Hp} {u : Value} {zs : List Int} (o : h.Nod u zs) : Ca u h = .ok (.int .i64 (zs.length : Int)) h := by
  rcases o with ⟨rfl, rfl⟩ | ⟨b, c, el, L, rfl, _⟩ | ⟨rfl, rfl⟩ <;> rfl
theorem Hp.Nod.ext {h h' : Hp} {u : Value} {zs : List Int} (o : h.Nod u zs) (W : h.Wf) (x : h.Ext h') : h'.Nod u zs := by
  rcases o with h1 | ⟨b, c, el, L, h1, h2, h3, h4⟩ | h1
  · exact .inl h1
  · exact .inr (.inl ⟨b, c, el, L, h1, h2, h3.ext W x, h4⟩)
  · exact .inr (.inr h1)
def Hp.PlI (h : Hp) (v : Value) (ws : List Pw) : Prop := (v = .slice none 0 0 ∧ ws = []) ∨ ∃ b c el L, v = .slice (some ⟨b, 0, none⟩) ws.length c ∧ h.Row b el (CC ws ++ L)
def Hp.NdV (h : Hp) (ws : List Pw) : Prop := ∀ x ∈ ws, h.Nod x.2.1 x.2.2
theorem Hp.PlI.ext {h h' : Hp} {v : Value} {ws : List Pw} (d : h.PlI v ws) (W : h.Wf) (x : h.Ext h') : h'.PlI v ws := by
  rcases d with h1 | ⟨b, c, el, L, h1, h2⟩
  · exact .inl h1
  · exact .inr ⟨b, c, el, L, h1, h2.ext W x⟩
theorem Hp.NdV.ext {h h' : Hp} {ws : List Pw} (d : h.NdV ws) (W : h.Wf) (x : h.Ext h') : h'.NdV ws := fun y hy => (d y hy).ext W x
theorem Hp.PlI.len {h : Hp} {v : Value} {ws : List Pw} (d : h.PlI v ws) {g : Hp} : Ca v g = .ok (.int .i64 (ws.length : Int)) g := by
  rcases d with ⟨rfl, rfl⟩ | ⟨b, c, el, L, rfl, _⟩ <;> rfl
theorem Hp.PlI.at {h : Hp} {v : Value} {ws : List Pw} (d : h.PlI v ws) {i : Nat} {x : Pw} (hx : ws[i]? = some x) : ∃ a, ET 2 v (.int .i64 (i : Int)) h = .ok (.pointer (some a)) h ∧ loadN 2 a h = .ok (plV x.1 x.2.1) h := by
  have hlt : i < ws.length := (List.getElem?_eq_some_iff.1 hx).1
  rcases d with ⟨_, rfl⟩ | ⟨b, c, el, L, rfl, R⟩
  · cases hlt
  · have hf := Dj ws
    refine ⟨⟨b, i * 2, none⟩, ?_, ?_⟩
    · have := FE (h := h) (es := 2) (b := b) (off := 0) (c := c) (k := .i64) hlt
      rw [Nat.zero_add] at this; exact this
    · have := R.loadN (off := i * 2) (n := 2) (by rw [List.length_append]; omega)
      rw [List.drop_append_of_le_length (by omega), List.take_append_of_le_length (by rw [List.length_drop]; omega), Lg ws i _ hx] at this
      exact this
theorem Hp.Nod.cells {h : Hp} {u : Value} {zs : List Int} (o : h.Nod u zs) (hz : 0 < zs.length) : cellsOf u = [u] ∧ Bl u = true := (o.vals hz).cells1
def Hp.NdW (h : Hp) (ws : List Pw) : Prop := ∀ x ∈ ws, h.Vals x.2.1 (ints .i64 x.2.2)
def okP (ep : Int) (zs : List Int) : Prop := 1 ≤ ep ∧ ep ≤ 1099511627776 ∧ 1 ≤ zs.length ∧ zs.length ≤ 255 ∧ ∀ i, i < zs.length → 0 ≤ zs.getD i 0 ∧ zs.getD i 0 < 256 ∧ zs.getD i 0 ∉ zs.take i
theorem Mu {e : Env} {y : O} {d mx n : Nat} {K : Nat → R} (hy : y e = .int .i64 (n : Int)) (hn : n ≤ mx) : EQ e (some y) d mx K = K n := by
  show (match C4 (y e) with | .ok n => (bif Nat.ble n mx then K n else .no) | .no => .no) = _
  rw [hy, DN]
  simp only
  rw [A0.2 hn]; rfl
theorem OG {F : CallF} {e : Env} {h : Hp} {x y : O} {el b N C m : Nat} (hx : x e = .slice (some ⟨b, 0, none⟩) N C) (hy : y e = .int .i64 (m : Int)) (hm : m ≤ C) : Da el 1 x none (some y) none F e h = .ok (.slice (some ⟨b, 0, none⟩) m C) h := by
  show (match x e with | .slice a n c => ER e n c none (some y) none (fun l hh m => GJ el 1 a false l hh m h) | _ => .no) = _
  rw [hx]
  show EQ e (some y) N C (fun hh => EQ e none 0 hh fun l => GJ el 1 (some ⟨b, 0, none⟩) false l hh C h) = _
  rw [Mu hy hm]
  show CB (some ⟨b, 0, none⟩) 1 0 m C h = _
  unfold CB
  simp only [Av]
  cases C with
  | zero => rfl
  | succ C => rfl
def prB : C := (cOp (AC 39) (AL iLt .i64 (AB 38) (AB 37))
(AP (AB 39)
(Ar (AX 1 (cOp (AC 41) (A9 1 (AB 36) (AB 38))
(cOp (AC 42) (AH (AB 41))
(cOp (AC 5) (AD (AB 38))
(cOp (AC 6) (AD (AB 42))
(cOp (AC 44) (AL iLt .i64 (AB 6) (kV (.int .i64 0)))
(cG (AB 44) false (AC 46) (AD (AB 6))
(cG (AB 44) false (AC 47) (AD (AB 1))
(cG (AB 44) false (AC 48) (AL iGe .i64 (AB 46) (AB 47))
(cOp (AC 49) (AS (AB 44) (kV (.bool true)) (AB 48))
(cG (AB 49) false (AC 51) (AF 1 (AB 2))
(cG (AB 49) false (AC 52) (AH (AB 51))
(cG (AB 49) false (AC 53) (AD (AB 5))
(cG (AB 49) false (AC 54) (Da 3 1 (AB 52) none (some (AB 53)) none)
(cG (AB 49) false (AC 55) (AD (AB 6))
(cG (AB 49) false (AC 56) (AQ 55 [(AB 54), (AB 55)])
(cOp (AC 57) (AS (AB 49) (kV (.bool true)) (AB 56))
(AP (AB 57)
(cOp (AC 4) (AD (kV (.bool false)))
Ae)
Ac))))))))))))))))))
(cOp (AC 58) (A4 .i64 (Ai .i64) (AB 38) (kV (.int .i64 1)))
(cOp (AC 38) (AD (AB 58))
Ac)))
(A7 0)))
def prE : C := (cOp (AC 4) (AD (kV (.bool true)))
Ae)
def prS : C := (Ar (AX 0 (Ao (cOp (AC 39) (AL iLt .i64 (AB 38) (AB 37))
(AP (AB 39)
(Ar (AX 1 (cOp (AC 41) (A9 1 (AB 36) (AB 38))
(cOp (AC 42) (AH (AB 41))
(cOp (AC 5) (AD (AB 38))
(cOp (AC 6) (AD (AB 42))
(cOp (AC 44) (AL iLt .i64 (AB 6) (kV (.int .i64 0)))
(cG (AB 44) false (AC 46) (AD (AB 6))
(cG (AB 44) false (AC 47) (AD (AB 1))
(cG (AB 44) false (AC 48) (AL iGe .i64 (AB 46) (AB 47))
(cOp (AC 49) (AS (AB 44) (kV (.bool true)) (AB 48))
(cG (AB 49) false (AC 51) (AF 1 (AB 2))
(cG (AB 49) false (AC 52) (AH (AB 51))
(cG (AB 49) false (AC 53) (AD (AB 5))
(cG (AB 49) false (AC 54) (Da 3 1 (AB 52) none (some (AB 53)) none)
(cG (AB 49) false (AC 55) (AD (AB 6))
(cG (AB 49) false (AC 56) (AQ 55 [(AB 54), (AB 55)])
(cOp (AC 57) (AS (AB 49) (kV (.bool true)) (AB 56))
(AP (AB 57)
(cOp (AC 4) (AD (kV (.bool false)))
Ae)
Ac))))))))))))))))))
(cOp (AC 58) (A4 .i64 (Ai .i64) (AB 38) (kV (.int .i64 1)))
(cOp (AC 38) (AD (AB 58))
Ac)))
(A7 0)))))
(cOp (AC 4) (AD (kV (.bool true)))
Ae))
theorem Sl : prS = Ar (AX 0 (Ao prB)) prE := rfl
def KZ : C := (cOp (AC 2) (Bu (AB 0))
(cOp (AC 4) (AD (kV (.bool false)))
(cOp (AC 8) (AL iLt .i64 (AB 1) (kV (.int .i64 1)))
(cG (AB 8) false (AC 10) (AD (AB 1))
(cG (AB 8) false (AC 11) (AL iGt .i64 (AB 10) (kV (.int .i64 256)))
(cOp (AC 12) (AS (AB 8) (kV (.bool true)) (AB 11))
(cG (AB 12) false (AC 14) (AF 0 (AB 2))
(cG (AB 12) false (AC 15) (AH (AB 14))
(cG (AB 12) false (AC 16) (AL iLt .i64 (AB 15) (kV (.int .i64 1)))
(cOp (AC 17) (AS (AB 12) (kV (.bool true)) (AB 16))
(cG (AB 17) false (AC 19) (AF 0 (AB 2))
(cG (AB 17) false (AC 20) (AH (AB 19))
(cG (AB 17) false (AC 21) (AL iGt .i64 (AB 20) (kV (.int .i64 1099511627776)))
(cOp (AC 22) (AS (AB 17) (kV (.bool true)) (AB 21))
(cG (AB 22) false (AC 24) (AF 1 (AB 2))
(cG (AB 22) false (AC 25) (AH (AB 24))
(cG (AB 22) false (AC 26) (Af (AB 25))
(cG (AB 22) false (AC 27) (AL iLt .i64 (AB 26) (kV (.int .i64 1)))
(cOp (AC 28) (AS (AB 22) (kV (.bool true)) (AB 27))
(cG (AB 28) false (AC 30) (AF 1 (AB 2))
(cG (AB 28) false (AC 31) (AH (AB 30))
(cG (AB 28) false (AC 32) (Af (AB 31))
(cG (AB 28) false (AC 33) (AL iGt .i64 (AB 32) (kV (.int .i64 255)))
(cOp (AC 34) (AS (AB 28) (kV (.bool true)) (AB 33))
(AP (AB 34)
(cOp (AC 4) (AD (kV (.bool false)))
Ae)
(cOp (AC 35) (AF 1 (AB 2))
(cOp (AC 36) (AH (AB 35))
(cOp (AC 37) (Af (AB 36))
(cOp (AC 38) (AD (kV (.int .i64 0)))
prS)))))))))))))))))))))))))))))
def d52 : C := KZ
theorem Qp {n : Nat} {args : List Value} {h : Hp} (hl : Nat.ble (Bk args) 320 = true) : call AG (Nat.succ n) 52 args h = Bs [.t (AB 4)] (d52 (call AG n) (Ak e0 0 args) h) := by
  have hb : AG.get 52 = some b52 := by kernel_rfl
  rw [BM hb]
  have hd : b52 = ⟨[.t (AB 4)], d52⟩ := by kernel_rfl
  rw [hd, BC hl]
theorem RD : d52 = KZ := rfl
theorem Sm {n : Nat} {h : Hp} {A : Nat} {ep : Int} {w : Value} {zs : List Int} (o : h.Nod w zs) (RA : h.Row A 0 [.int .i64 ep, w]) (hl : zs.length ≤ 255) {e : Env} (s1 : AB 1 e = .int .i64 256) (s2 : AB 2 e = .pointer (some ⟨A, 0, none⟩)) (s36 : AB 36 e = w) (s37 : AB 37 e = .int .i64 (zs.length : Int)) (s38 : AB 38 e = .int .i64 0) :
    (∃ e', Ao prB (call AG (n + 2)) e h = .exit 0 e' h ∧ ∀ i, i < zs.length → 0 ≤ zs.getD i 0 ∧ zs.getD i 0 < 256 ∧ zs.getD i 0 ∉ zs.take i) ∨ (∃ e', Ao prB (call AG (n + 2)) e h = .ret e' h ∧ AB 4 e' = .bool false ∧ ¬ ∀ i, i < zs.length → 0 ≤ zs.getD i 0 ∧ zs.getD i 0 < 256 ∧ zs.getD i 0 ∉ zs.take i) := by
  have la : Cu (.pointer (some ⟨A, 1, none⟩)) h = .ok w h := by rw [Am]; exact RA.load1 (off := 1) (by simp)
  refine Bo (I := fun i e' h' => h' = h ∧ AB 1 e' = .int .i64 256 ∧ AB 2 e' = .pointer (some ⟨A, 0, none⟩) ∧ AB 36 e' = w ∧ AB 37 e' = .int .i64 (zs.length : Int) ∧ AB 38 e' = .int .i64 (i : Int) ∧ i ≤ zs.length ∧ ∀ j, j < i → 0 ≤ zs.getD j 0 ∧ zs.getD j 0 < 256 ∧ zs.getD j 0 ∉ zs.take j)
    (Q := fun y => (∃ e', y = .exit 0 e' h ∧ ∀ i, i < zs.length → 0 ≤ zs.getD i 0 ∧ zs.getD i 0 < 256 ∧ zs.getD i 0 ∉ zs.take i) ∨ (∃ e', y = .ret e' h ∧ AB 4 e' = .bool false ∧ ¬ ∀ i, i < zs.length → 0 ≤ zs.getD i 0 ∧ zs.getD i 0 < 256 ∧ zs.getD i 0 ∉ zs.take i)) zs.length (by omega) (fun i e' h' ⟨hh, t1, t2, t36, t37, t38, hi, hj⟩ => ?_) ⟨rfl, s1, s2, s36, s37, s38, Nat.zero_le _, fun j hj => by omega⟩
  subst hh
  by_cases hlt : i < zs.length
  · have V := o.vals (by omega)
    obtain ⟨a, g1, g2⟩ := V.int hlt
    obtain ⟨b, C, hw, hC⟩ : ∃ b C, w = .slice (some ⟨b, 0, none⟩) zs.length C ∧ zs.length ≤ C := by
      rcases o with ⟨_, rfl⟩ | ⟨b, c, el, L, h1, h2, _⟩ | ⟨_, rfl⟩
      · cases hlt
      · exact ⟨b, c, h1, h2⟩
      · cases hlt
    have ct : ∀ e : Env, AB 52 e = w → AB 53 e = .int .i64 (i : Int) → Da 3 1 (AB 52) none (some (AB 53)) none (call AG (n + 2)) e h' = .ok (.slice (some ⟨b, 0, none⟩) i C) h' := fun e q1 q2 => OG (q1.trans hw) q2 (by omega)
    have Vc : h'.Vals (.slice (some ⟨b, 0, none⟩) i C) (ints .i64 (zs.take i)) := by
      obtain ⟨o', c', q1, q2⟩ := V.cut (n := i) (by rw [BG]; exact hlt)
      rw [hw, BG] at q1
      cases q1
      have : ints .i64 (zs.take i) = (ints .i64 zs).take i := List.map_take ..
      rw [this]; exact q2
    have k1 := LQ (n := n) (x := zs.getD i 0) Vc (by rw [List.length_take]; omega)
    have c1 : iLt (i : Int) (zs.length : Int) = true := by rw [As]; simp; omega
    have bad : ¬ (0 ≤ zs.getD i 0 ∧ zs.getD i 0 < 256 ∧ zs.getD i 0 ∉ zs.take i) → (∃ e2, prB (call AG (n + 2)) e' h' = .ret e2 h' ∧ AB 4 e2 = .bool false) → (∃ e2, prB (call AG (n + 2)) e' h' = .ret e2 h' ∧ AB 4 e2 = .bool false ∧ ¬ ∀ i, i < zs.length → 0 ≤ zs.getD i 0 ∧ zs.getD i 0 < 256 ∧ zs.getD i 0 ∉ zs.take i) := fun hb ⟨e2, q1, q2⟩ => ⟨e2, q1, q2, fun h => hb (h i hlt)⟩
    have good : (0 ≤ zs.getD i 0 ∧ zs.getD i 0 < 256 ∧ zs.getD i 0 ∉ zs.take i) → ∀ j, j < i + 1 → 0 ≤ zs.getD j 0 ∧ zs.getD j 0 < 256 ∧ zs.getD j 0 ∉ zs.take j := fun hg j h1 => by
      rcases Nat.lt_or_eq_of_le (Nat.le_of_lt_succ h1) with h2 | h2
      · exact hj j h2
      · rw [h2]; exact hg
    generalize hz : zs.getD i 0 = z at g2 k1 bad good
    have run : (∃ e2, prB (call AG (n + 2)) e' h' = .ret e2 h' ∧ AB 4 e2 = .bool false ∧ ¬ ∀ i, i < zs.length → 0 ≤ zs.getD i 0 ∧ zs.getD i 0 < 256 ∧ zs.getD i 0 ∉ zs.take i) ∨ ((0 ≤ z ∧ z < 256 ∧ z ∉ zs.take i) ∧ ∃ e2, prB (call AG (n + 2)) e' h' = .norm e2 h' ∧ AB 1 e2 = .int .i64 256 ∧ AB 2 e2 = .pointer (some ⟨A, 0, none⟩) ∧ AB 36 e2 = w ∧ AB 37 e2 = .int .i64 (zs.length : Int) ∧ AB 38 e2 = .int .i64 ((i + 1 : Nat) : Int)) := by
      by_cases z0 : z < 0
      · left
        refine bad (fun h => by omega) ?_
        have c2 : iLt z 0 = true := by rw [As]; simpa using z0
        unfold prB
        simp only [sT, Nat.reduceLT, Nat.reduceEqDiff, if_true, if_false, reduceIte, gD, AO, AN, t38, t37, c1, BV, t36, g1, Ab, g2, c2]
        exact ⟨_, rfl, by simp [AE]⟩
      have c2 : iLt z 0 = false := by rw [As]; simpa using z0
      by_cases z1 : 256 ≤ z
      · left
        refine bad (fun h => by omega) ?_
        have c3 : iGe z 256 = true := by rw [Cl]; simpa using z1
        unfold prB
        simp only [sT, Nat.reduceLT, Nat.reduceEqDiff, if_true, if_false, reduceIte, gD, AO, AN, t38, t37, c1, BV, t36, g1, Ab, g2, c2, t1, c3]
        exact ⟨_, rfl, by simp [AE]⟩
      have c3 : iGe z 256 = false := by rw [Cl]; simp; omega
      by_cases z2 : z ∈ zs.take i
      · left
        refine bad (fun h => h.2.2 z2) ?_
        rw [decide_eq_true z2] at k1
        unfold prB
        simp only [sT, Nat.reduceLT, Nat.reduceEqDiff, if_true, if_false, reduceIte, gD, AO, AN, t38, t37, c1, BV, t36, g1, Ab, g2, c2, t1, c3, AW, t2, Aj, Nat.zero_add, la, ct, Ah, AV, Ad, k1]
        exact ⟨_, rfl, by simp [AE]⟩
      · right
        rw [decide_eq_false z2] at k1
        have a3 : Ci .i64 (.int .i64 (i : Int)) (.int .i64 1) h' = .ok (.int .i64 ((i + 1 : Nat) : Int)) h' := by
          have : (i : Int) + 1 = ((i + 1 : Nat) : Int) := by omega
          rw [Bc, this, BJ (by omega)]
        refine ⟨⟨by omega, by omega, z2⟩, ?_⟩
        unfold prB
        simp only [sT, Nat.reduceLT, Nat.reduceEqDiff, if_true, if_false, reduceIte, gD, AO, AN, t38, t37, c1, BV, t36, g1, Ab, g2, c2, t1, c3, AW, t2, Aj, Nat.zero_add, la, ct, Ah, AV, Ad, k1, Bb, a3]
        exact ⟨_, rfl, by simp only [AE, Nat.reduceLT, Nat.reduceEqDiff, if_true, if_false, reduceIte]; exact t1, by simp only [AE, Nat.reduceLT, Nat.reduceEqDiff, if_true, if_false, reduceIte]; exact t2, by simp only [AE, Nat.reduceLT, Nat.reduceEqDiff, if_true, if_false, reduceIte]; exact t36, by simp only [AE, Nat.reduceLT, Nat.reduceEqDiff, if_true, if_false, reduceIte]; exact t37, by simp [AE]⟩
    rcases run with ⟨e2, r1, r2, r3⟩ | ⟨hg, e2, r1, r2⟩
    · right
      rw [r1]
      exact ⟨rfl, .inr ⟨e2, rfl, r2, r3⟩⟩
    · left
      exact ⟨hlt, e2, h', r1, rfl, r2.1, r2.2.1, r2.2.2.1, r2.2.2.2.1, r2.2.2.2.2, hlt, good hg⟩
  · right
    have c1 : iLt (i : Int) (zs.length : Int) = false := by rw [As]; simp; omega
    have hrun : ∃ e2, prB (call AG (n + 2)) e' h' = .exit 0 e2 h' := by
      unfold prB
      simp only [sT, Nat.reduceLT, Nat.reduceEqDiff, if_true, if_false, reduceIte, AO, AN, t38, t37, c1]
      exact ⟨_, rfl⟩
    obtain ⟨e2, r1⟩ := hrun
    rw [r1]
    have : i = zs.length := by omega
    subst this
    exact ⟨rfl, .inl ⟨e2, rfl, hj⟩⟩
theorem Sn {n : Nat} {h : Hp} (W : h.Wf) {ep : Int} {w : Value} {zs : List Int} (o : h.Nod w zs) : ∃ r, call AG (n + 3) 52 [plV ep w, .int .i64 256] h = .ok (.bool r) (h.pushRow 0 [.int .i64 ep, w]) ∧ (r = true ↔ okP ep zs) := by
  have R := Hp.Row.new W 0 [.int .i64 ep, w]
  have x1 := DK W (ep := ep) (w := w)
  have hbx : ∀ e : Env, AB 0 e = plV ep w → Bu (AB 0) (call AG (n + 2)) e h = .ok (.pointer (some ⟨h.next, 0, none⟩)) (h.pushRow 0 [.int .i64 ep, w]) := fun e he => GY W he
  have o1 := o.ext W x1
  generalize h.pushRow 0 [.int .i64 ep, w] = g at R x1 hbx o1
  have l0 : load1 ⟨h.next, 0, none⟩ g = .ok (.int .i64 ep) g := R.load1 (off := 0) (by simp)
  have l1 : load1 ⟨h.next, 1, none⟩ g = .ok w g := R.load1 (off := 1) (by simp)
  have c1 : iLt 256 1 = false := rfl
  have c2 : iGt 256 256 = false := rfl
  have no : ¬ okP ep zs → (∃ e1, KZ (call AG (n + 2)) (Ak e0 0 [plV ep w, .int .i64 256]) h = .ret e1 g ∧ AB 4 e1 = .bool false) → ∃ r, call AG (n + 3) 52 [plV ep w, .int .i64 256] h = .ok (.bool r) g ∧ (r = true ↔ okP ep zs) := fun hn ⟨e1, q1, q2⟩ => ⟨false, by
    rw [Qp rfl, RD, q1]
    simp only [AZ, Ap, q2], ⟨(fun h => by cases h), fun h => (hn h).elim⟩⟩
  by_cases z1 : ep < 1
  · refine no (fun h => by have := h.1; omega) ?_
    have c3 : iLt ep 1 = true := by rw [As]; simpa using z1
    unfold KZ
    simp only [AK, AM, Nat.succ_eq_add_one, Nat.zero_add, Nat.reduceAdd, sT, Nat.reduceLT, Nat.reduceEqDiff, if_true, if_false, reduceIte, gD, hbx, AO, AN, c1, c2, AW, Aj, Ab, Am, l0, c3]
    exact ⟨_, rfl, by simp [AE]⟩
  have c3 : iLt ep 1 = false := by rw [As]; simp; omega
  by_cases z2 : 1099511627776 < ep
  · refine no (fun h => by have := h.2.1; omega) ?_
    have c4 : iGt ep 1099511627776 = true := by rw [BS]; simpa using z2
    unfold KZ
    simp only [AK, AM, Nat.succ_eq_add_one, Nat.zero_add, Nat.reduceAdd, sT, Nat.reduceLT, Nat.reduceEqDiff, if_true, if_false, reduceIte, gD, hbx, AO, AN, c1, c2, AW, Aj, Ab, Am, l0, c3, c4]
    exact ⟨_, rfl, by simp [AE]⟩
  have c4 : iGt ep 1099511627776 = false := by rw [BS]; simp; omega
  by_cases z3 : zs.length < 1
  · refine no (fun h => by have := h.2.2.1; omega) ?_
    have c5 : iLt (zs.length : Int) 1 = true := by rw [As]; simp; omega
    unfold KZ
    simp only [AK, AM, Nat.succ_eq_add_one, Nat.zero_add, Nat.reduceAdd, sT, Nat.reduceLT, Nat.reduceEqDiff, if_true, if_false, reduceIte, gD, hbx, AO, AN, c1, c2, AW, Aj, Ab, Am, l0, l1, c3, c4, Al, o1.ilen, c5]
    exact ⟨_, rfl, by simp [AE]⟩
  have c5 : iLt (zs.length : Int) 1 = false := by rw [As]; simp; omega
  by_cases z4 : 255 < zs.length
  · refine no (fun h => by have := h.2.2.2.1; omega) ?_
    have c6 : iGt (zs.length : Int) 255 = true := by rw [BS]; simp; omega
    unfold KZ
    simp only [AK, AM, Nat.succ_eq_add_one, Nat.zero_add, Nat.reduceAdd, sT, Nat.reduceLT, Nat.reduceEqDiff, if_true, if_false, reduceIte, gD, hbx, AO, AN, c1, c2, AW, Aj, Ab, Am, l0, l1, c3, c4, Al, o1.ilen, c5, c6]
    exact ⟨_, rfl, by simp [AE]⟩
  have c6 : iGt (zs.length : Int) 255 = false := by rw [BS]; simp; omega
  have pre : ∃ e1, KZ (call AG (n + 2)) (Ak e0 0 [plV ep w, .int .i64 256]) h = prS (call AG (n + 2)) e1 g ∧ AB 1 e1 = .int .i64 256 ∧ AB 2 e1 = .pointer (some ⟨h.next, 0, none⟩) ∧ AB 36 e1 = w ∧ AB 37 e1 = .int .i64 (zs.length : Int) ∧ AB 38 e1 = .int .i64 0 := by
    unfold KZ
    simp only [AK, AM, Nat.succ_eq_add_one, Nat.zero_add, Nat.reduceAdd, BX, Bj, BZ, Ba, A5, Br, AE, Nat.reduceLT, Nat.reduceEqDiff, if_true, if_false, reduceIte, gD, hbx, AO, AN, c1, c2, AW, Aj, Ab, Am, l0, l1, c3, c4, Al, o1.ilen, c5, c6]
    exact ⟨_, rfl, by simp [AE], by simp [AE], by simp [AE], by simp [AE], by simp [AE]⟩
  obtain ⟨e1, p1, p2, p3, p4, p5, p6⟩ := pre
  rcases Sm (n := n) o1 R (by omega) p2 p3 p4 p5 p6 with ⟨e2, q1, q2⟩ | ⟨e2, q1, q2, q3⟩
  · refine ⟨true, ?_, ⟨fun _ => ⟨by omega, by omega, by omega, by omega, q2⟩, fun _ => rfl⟩⟩
    rw [Qp rfl, RD, p1, Sl]
    simp only [BI, Aq, q1, BA, BH]
    unfold prE
    simp only [sT, Nat.reduceLT, Nat.reduceEqDiff, if_true, if_false, reduceIte, AZ, Ap]
  · refine no (fun h => q3 h.2.2.2.2) ⟨e2, ?_, q2⟩
    rw [p1, Sl]
    simp only [BI, Aq, q1, BL, Bw]
theorem XP {n : Nat} {h : Hp} (W : h.Wf) {ep : Int} {w : Value} {zs : List Int} (o : h.Nod w zs) : ∃ r h', call AG (n + 4) 51 [plV ep w] h = .ok (.bool r) h' ∧ h.Ext h' ∧ (r = true ↔ ¬ okP ep zs) := by
  have R := Hp.Row.new W 0 [.int .i64 ep, w]
  have x1 := DK W (ep := ep) (w := w)
  have hbx : ∀ e : Env, AB 0 e = plV ep w → Bu (AB 0) (call AG (n + 3)) e h = .ok (.pointer (some ⟨h.next, 0, none⟩)) (h.pushRow 0 [.int .i64 ep, w]) := fun e he => GY W he
  have o1 := o.ext W x1
  generalize h.pushRow 0 [.int .i64 ep, w] = g at R x1 hbx o1
  have l0 : loadN 2 ⟨h.next, 0, none⟩ g = .ok (plV ep w) g := R.loadN (by simp)
  obtain ⟨r, k1, k2⟩ := Sn (n := n) x1.wf (ep := ep) o1
  refine ⟨!r, _, ?_, x1.trans (DK x1.wf (ep := ep) (w := w)), ?_⟩
  · rw [Yo rfl]
    unfold d51
    simp only [AK, AM, Nat.succ_eq_add_one, Nat.zero_add, Nat.reduceAdd, sT, Nat.reduceLT, Nat.reduceEqDiff, if_true, if_false, reduceIte, hbx, Ay, Aw, l0, Ah, AV, Ad, k1, Bf, Be, AZ, Ap]
  · rw [← k2]; cases r <;> simp
end
end Go.Proofs.Ytkafejncffinmaa

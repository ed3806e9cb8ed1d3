/-
  mend.told: what an answer makes of a mending: the choice, case by case. Printed by program (mdp.py).
-/
import Derived.Test.YthcfmklkbakkpaaZM
set_option linter.unusedVariables false
set_option linter.unusedSimpArgs false
namespace Go.Proofs.Ythcfmklkbakkpaa
noncomputable section
open Go Go.RowKit Go.ChangeShapes
set_option maxRecDepth 100000
set_option maxHeartbeats 0
section
variable {F : CallF} {e : Env} {g : Hp} {m : MD} {um uw us : Value} {w : Int × Int × Int} {t : TE} {ui ub : Value} {b3 b4 b5 b6 B i : Nat} {kd : Int}
theorem ZB (I : TdI g m um uw us w t ui ub b3 b4 b5 b6 B i kd e) (hop : w.2.1 = 6) (f1 : iEq m.ver 0 = false) (s8 : AB 8 e = .bool true) (s9 : AB 9 e = .bool false) (e61 : iEq t.err 61 = false) (e12 : iEq t.err 12 = false) {g1 g2 : Hp} (st : storeR 1 (.pointer (some ⟨B, i * 3, none⟩)) (.int .i64 3) g = .ok noRes g1) (st2 : storeR 1 (.pointer (some ⟨B, i * 3 + 1, none⟩)) (.bool false) g1 = .ok noRes g2) : ∃ e', tdC F e g = .norm e' g2 ∧ AB 3 e' = pt b3 ∧ AB 6 e' = pt b6 := by
  obtain ⟨l31, l37, l40, l41, l42, l53, l54, l55, lk, s3, s4, s5, s6, s7⟩ := I
  rw [hop] at l41
  unfold tdC
  simp only [sT, Nat.reduceLT, Nat.reduceEqDiff, if_true, if_false, reduceIte, gD, s3, s4, s5, s6, s7, s8, s9, AJ, AN, Nat.zero_add, Nat.add_zero, AP, AX, l31, l40, l41, l42, l53, l54, l55, lk, AZ, AY, B7, e61, e12, f1, BX, BC, Aa, AU, l37, Ad, Ai, Ap, Ae, Al, st, st2]
  exact ⟨_, rfl, by simp only [AG, Nat.reduceLT, Nat.reduceEqDiff, if_true, if_false, reduceIte]; exact s3, by simp only [AG, Nat.reduceLT, Nat.reduceEqDiff, if_true, if_false, reduceIte]; exact s6⟩
theorem Uq (I : TdI g m um uw us w t ui ub b3 b4 b5 b6 B i kd e) (hop : w.2.1 = 6) (f1 : iEq m.ver 0 = false) (s8 : AB 8 e = .bool false) (s9 : AB 9 e = .bool true) (e61 : iEq t.err 61 = false) (e12 : iEq t.err 12 = false) : ∃ e', tdC F e g = .norm e' g ∧ AB 3 e' = pt b3 ∧ AB 6 e' = pt b6 := by
  obtain ⟨l31, l37, l40, l41, l42, l53, l54, l55, lk, s3, s4, s5, s6, s7⟩ := I
  rw [hop] at l41
  unfold tdC
  simp only [sT, Nat.reduceLT, Nat.reduceEqDiff, if_true, if_false, reduceIte, gD, s3, s4, s5, s6, s7, s8, s9, AJ, AN, Nat.zero_add, Nat.add_zero, AP, AX, l31, l40, l41, l42, l53, l54, l55, lk, AZ, AY, B7, e61, e12, f1, BX, BC, Aa, AU, l37, Ad, Ai, Ap, Ae, Al]
  exact ⟨_, rfl, by simp only [AG, Nat.reduceLT, Nat.reduceEqDiff, if_true, if_false, reduceIte]; exact s3, by simp only [AG, Nat.reduceLT, Nat.reduceEqDiff, if_true, if_false, reduceIte]; exact s6⟩
theorem Ur (I : TdI g m um uw us w t ui ub b3 b4 b5 b6 B i kd e) (hop : w.2.1 = 6) (f1 : iEq m.ver 0 = false) (s8 : AB 8 e = .bool false) (s9 : AB 9 e = .bool false) (e61 : iEq t.err 61 = true) (e12 : iEq t.err 12 = false) : ∃ e', tdC F e g = .norm e' g ∧ AB 3 e' = pt b3 ∧ AB 6 e' = pt b6 := by
  obtain ⟨l31, l37, l40, l41, l42, l53, l54, l55, lk, s3, s4, s5, s6, s7⟩ := I
  rw [hop] at l41
  unfold tdC
  simp only [sT, Nat.reduceLT, Nat.reduceEqDiff, if_true, if_false, reduceIte, gD, s3, s4, s5, s6, s7, s8, s9, AJ, AN, Nat.zero_add, Nat.add_zero, AP, AX, l31, l40, l41, l42, l53, l54, l55, lk, AZ, AY, B7, e61, e12, f1, BX, BC, Aa, AU, l37, Ad, Ai, Ap, Ae, Al]
  exact ⟨_, rfl, by simp only [AG, Nat.reduceLT, Nat.reduceEqDiff, if_true, if_false, reduceIte]; exact s3, by simp only [AG, Nat.reduceLT, Nat.reduceEqDiff, if_true, if_false, reduceIte]; exact s6⟩
theorem Up (I : TdI g m um uw us w t ui ub b3 b4 b5 b6 B i kd e) (hop : w.2.1 = 6) (f1 : iEq m.ver 0 = false) (s8 : AB 8 e = .bool false) (s9 : AB 9 e = .bool false) (e61 : iEq t.err 61 = false) (e12 : iEq t.err 12 = true) : ∃ e', tdC F e g = .norm e' g ∧ AB 3 e' = pt b3 ∧ AB 6 e' = pt b6 := by
  obtain ⟨l31, l37, l40, l41, l42, l53, l54, l55, lk, s3, s4, s5, s6, s7⟩ := I
  rw [hop] at l41
  unfold tdC
  simp only [sT, Nat.reduceLT, Nat.reduceEqDiff, if_true, if_false, reduceIte, gD, s3, s4, s5, s6, s7, s8, s9, AJ, AN, Nat.zero_add, Nat.add_zero, AP, AX, l31, l40, l41, l42, l53, l54, l55, lk, AZ, AY, B7, e61, e12, f1, BX, BC, Aa, AU, l37, Ad, Ai, Ap, Ae, Al]
  exact ⟨_, rfl, by simp only [AG, Nat.reduceLT, Nat.reduceEqDiff, if_true, if_false, reduceIte]; exact s3, by simp only [AG, Nat.reduceLT, Nat.reduceEqDiff, if_true, if_false, reduceIte]; exact s6⟩
theorem ZC (I : TdI g m um uw us w t ui ub b3 b4 b5 b6 B i kd e) (hop : w.2.1 = 6) (f1 : iEq m.ver 0 = false) (s8 : AB 8 e = .bool false) (s9 : AB 9 e = .bool false) (e61 : iEq t.err 61 = false) (e12 : iEq t.err 12 = false) : ∃ e', tdC F e g = .norm e' g ∧ AB 3 e' = pt b3 ∧ AB 6 e' = pt b6 := by
  obtain ⟨l31, l37, l40, l41, l42, l53, l54, l55, lk, s3, s4, s5, s6, s7⟩ := I
  rw [hop] at l41
  unfold tdC
  simp only [sT, Nat.reduceLT, Nat.reduceEqDiff, if_true, if_false, reduceIte, gD, s3, s4, s5, s6, s7, s8, s9, AJ, AN, Nat.zero_add, Nat.add_zero, AP, AX, l31, l40, l41, l42, l53, l54, l55, lk, AZ, AY, B7, e61, e12, f1, BX, BC, Aa, AU, l37, Ad, Ai, Ap, Ae, Al]
  exact ⟨_, rfl, by simp only [AG, Nat.reduceLT, Nat.reduceEqDiff, if_true, if_false, reduceIte]; exact s3, by simp only [AG, Nat.reduceLT, Nat.reduceEqDiff, if_true, if_false, reduceIte]; exact s6⟩
end
end
end Go.Proofs.Ythcfmklkbakkpaa

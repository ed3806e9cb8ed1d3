/-
  mend.told: what an answer makes of a mending: the choice, case by case. Printed by program (mdp.py).
-/
import Derived.Test.YthcfmklkbakkpaaZM
set_option linter.unusedVariables false
set_option linter.unusedSimpArgs false
namespace Go.Proofs.Ythcfmklkbakkpaa
noncomputable section
open Go Go.RowKit Go.ChangeShapes
set_option maxRecDepth 100000
set_option maxHeartbeats 0
section
variable {F : CallF} {e : Env} {g : Hp} {m : MD} {um uw us : Value} {w : Int × Int × Int} {t : TE} {ui ub : Value} {b3 b4 b5 b6 B i : Nat} {kd : Int}
theorem Yy (I : TdI g m um uw us w t ui ub b3 b4 b5 b6 B i kd e) (hop : w.2.1 = 6) (f1 : iEq m.ver 0 = true) (s8 : AB 8 e = .bool true) (s9 : AB 9 e = .bool false) (e61 : iEq t.err 61 = false) (e12 : iEq t.err 12 = false) {g2 : Hp} (st : storeR 1 (.pointer (some ⟨B, i * 3 + 2, none⟩)) A6 g = .ok noRes g2) : ∃ e', tdC F e g = .norm e' g2 ∧ AB 3 e' = pt b3 ∧ AB 6 e' = pt b6 := by
  obtain ⟨l31, l37, l40, l41, l42, l53, l54, l55, lk, s3, s4, s5, s6, s7⟩ := I
  rw [hop] at l41
  unfold tdC
  simp only [sT, Nat.reduceLT, Nat.reduceEqDiff, if_true, if_false, reduceIte, gD, s3, s4, s5, s6, s7, s8, s9, AJ, AN, Nat.zero_add, Nat.add_zero, AP, AX, l31, l40, l41, l42, l53, l54, l55, lk, AZ, AY, B7, e61, e12, f1, BX, BC, Aa, AU, l37, Ad, Ai, Ap, Ae, Al, st]
  exact ⟨_, rfl, by simp only [AG, Nat.reduceLT, Nat.reduceEqDiff, if_true, if_false, reduceIte]; exact s3, by simp only [AG, Nat.reduceLT, Nat.reduceEqDiff, if_true, if_false, reduceIte]; exact s6⟩
theorem Ue (I : TdI g m um uw us w t ui ub b3 b4 b5 b6 B i kd e) (hop : w.2.1 = 6) (f1 : iEq m.ver 0 = true) (s8 : AB 8 e = .bool false) (s9 : AB 9 e = .bool true) (e61 : iEq t.err 61 = false) (e12 : iEq t.err 12 = false) : ∃ e', tdC F e g = .norm e' g ∧ AB 3 e' = pt b3 ∧ AB 6 e' = pt b6 := by
  obtain ⟨l31, l37, l40, l41, l42, l53, l54, l55, lk, s3, s4, s5, s6, s7⟩ := I
  rw [hop] at l41
  unfold tdC
  simp only [sT, Nat.reduceLT, Nat.reduceEqDiff, if_true, if_false, reduceIte, gD, s3, s4, s5, s6, s7, s8, s9, AJ, AN, Nat.zero_add, Nat.add_zero, AP, AX, l31, l40, l41, l42, l53, l54, l55, lk, AZ, AY, B7, e61, e12, f1, BX, BC, Aa, AU, l37, Ad, Ai, Ap, Ae, Al]
  exact ⟨_, rfl, by simp only [AG, Nat.reduceLT, Nat.reduceEqDiff, if_true, if_false, reduceIte]; exact s3, by simp only [AG, Nat.reduceLT, Nat.reduceEqDiff, if_true, if_false, reduceIte]; exact s6⟩
theorem Uf (I : TdI g m um uw us w t ui ub b3 b4 b5 b6 B i kd e) (hop : w.2.1 = 6) (f1 : iEq m.ver 0 = true) (s8 : AB 8 e = .bool false) (s9 : AB 9 e = .bool false) (e61 : iEq t.err 61 = true) (e12 : iEq t.err 12 = false) : ∃ e', tdC F e g = .norm e' g ∧ AB 3 e' = pt b3 ∧ AB 6 e' = pt b6 := by
  obtain ⟨l31, l37, l40, l41, l42, l53, l54, l55, lk, s3, s4, s5, s6, s7⟩ := I
  rw [hop] at l41
  unfold tdC
  simp only [sT, Nat.reduceLT, Nat.reduceEqDiff, if_true, if_false, reduceIte, gD, s3, s4, s5, s6, s7, s8, s9, AJ, AN, Nat.zero_add, Nat.add_zero, AP, AX, l31, l40, l41, l42, l53, l54, l55, lk, AZ, AY, B7, e61, e12, f1, BX, BC, Aa, AU, l37, Ad, Ai, Ap, Ae, Al]
  exact ⟨_, rfl, by simp only [AG, Nat.reduceLT, Nat.reduceEqDiff, if_true, if_false, reduceIte]; exact s3, by simp only [AG, Nat.reduceLT, Nat.reduceEqDiff, if_true, if_false, reduceIte]; exact s6⟩
theorem Ud (I : TdI g m um uw us w t ui ub b3 b4 b5 b6 B i kd e) (hop : w.2.1 = 6) (f1 : iEq m.ver 0 = true) (s8 : AB 8 e = .bool false) (s9 : AB 9 e = .bool false) (e61 : iEq t.err 61 = false) (e12 : iEq t.err 12 = true) : ∃ e', tdC F e g = .norm e' g ∧ AB 3 e' = pt b3 ∧ AB 6 e' = pt b6 := by
  obtain ⟨l31, l37, l40, l41, l42, l53, l54, l55, lk, s3, s4, s5, s6, s7⟩ := I
  rw [hop] at l41
  unfold tdC
  simp only [sT, Nat.reduceLT, Nat.reduceEqDiff, if_true, if_false, reduceIte, gD, s3, s4, s5, s6, s7, s8, s9, AJ, AN, Nat.zero_add, Nat.add_zero, AP, AX, l31, l40, l41, l42, l53, l54, l55, lk, AZ, AY, B7, e61, e12, f1, BX, BC, Aa, AU, l37, Ad, Ai, Ap, Ae, Al]
  exact ⟨_, rfl, by simp only [AG, Nat.reduceLT, Nat.reduceEqDiff, if_true, if_false, reduceIte]; exact s3, by simp only [AG, Nat.reduceLT, Nat.reduceEqDiff, if_true, if_false, reduceIte]; exact s6⟩
theorem Yz (I : TdI g m um uw us w t ui ub b3 b4 b5 b6 B i kd e) (hop : w.2.1 = 6) (f1 : iEq m.ver 0 = true) (s8 : AB 8 e = .bool false) (s9 : AB 9 e = .bool false) (e61 : iEq t.err 61 = false) (e12 : iEq t.err 12 = false) : ∃ e', tdC F e g = .norm e' g ∧ AB 3 e' = pt b3 ∧ AB 6 e' = pt b6 := by
  obtain ⟨l31, l37, l40, l41, l42, l53, l54, l55, lk, s3, s4, s5, s6, s7⟩ := I
  rw [hop] at l41
  unfold tdC
  simp only [sT, Nat.reduceLT, Nat.reduceEqDiff, if_true, if_false, reduceIte, gD, s3, s4, s5, s6, s7, s8, s9, AJ, AN, Nat.zero_add, Nat.add_zero, AP, AX, l31, l40, l41, l42, l53, l54, l55, lk, AZ, AY, B7, e61, e12, f1, BX, BC, Aa, AU, l37, Ad, Ai, Ap, Ae, Al]
  exact ⟨_, rfl, by simp only [AG, Nat.reduceLT, Nat.reduceEqDiff, if_true, if_false, reduceIte]; exact s3, by simp only [AG, Nat.reduceLT, Nat.reduceEqDiff, if_true, if_false, reduceIte]; exact s6⟩
theorem Y0 (I : TdI g m um uw us w t ui ub b3 b4 b5 b6 B i kd e) (hop : w.2.1 = 4) (f1 : iEq w.2.2 0 = false) (f3 : iEq kd 1 = true) (s8 : AB 8 e = .bool true) (s9 : AB 9 e = .bool false) (e61 : iEq t.err 61 = false) (e12 : iEq t.err 12 = false) {g1 g2 : Hp} {v : Value} (ca : F 38 [mendV m um uw us, .int .i64 w.1, ub] g = .ok v g1) (st : storeR 7 (pt b6) v g1 = .ok noRes g2) : ∃ e', tdC F e g = .ret e' g2 ∧ AB 6 e' = pt b6 := by
  obtain ⟨l31, l37, l40, l41, l42, l53, l54, l55, lk, s3, s4, s5, s6, s7⟩ := I
  rw [hop] at l41
  unfold tdC
  simp only [sT, Nat.reduceLT, Nat.reduceEqDiff, if_true, if_false, reduceIte, gD, s3, s4, s5, s6, s7, s8, s9, AJ, AN, Nat.zero_add, Nat.add_zero, AP, AX, l31, l40, l41, l42, l53, l54, l55, lk, AZ, AY, B7, e61, e12, f1, f3, BX, BC, Aa, AU, l37, Ad, Ai, Ap, Ae, Al, ca, st]
  exact ⟨_, rfl, by simp only [AG, Nat.reduceLT, Nat.reduceEqDiff, if_true, if_false, reduceIte]; exact s6⟩
theorem Uh (I : TdI g m um uw us w t ui ub b3 b4 b5 b6 B i kd e) (hop : w.2.1 = 4) (f1 : iEq w.2.2 0 = false) (f3 : iEq kd 1 = true) (s8 : AB 8 e = .bool false) (s9 : AB 9 e = .bool true) (e61 : iEq t.err 61 = false) (e12 : iEq t.err 12 = false) {g1 g2 : Hp} (st : storeR 1 (.pointer (some ⟨B, i * 3, none⟩)) (.int .i64 3) g = .ok noRes g1) (st2 : storeR 1 (.pointer (some ⟨B, i * 3 + 1, none⟩)) (.bool false) g1 = .ok noRes g2) : ∃ e', tdC F e g = .norm e' g2 ∧ AB 3 e' = pt b3 ∧ AB 6 e' = pt b6 := by
  obtain ⟨l31, l37, l40, l41, l42, l53, l54, l55, lk, s3, s4, s5, s6, s7⟩ := I
  rw [hop] at l41
  unfold tdC
  simp only [sT, Nat.reduceLT, Nat.reduceEqDiff, if_true, if_false, reduceIte, gD, s3, s4, s5, s6, s7, s8, s9, AJ, AN, Nat.zero_add, Nat.add_zero, AP, AX, l31, l40, l41, l42, l53, l54, l55, lk, AZ, AY, B7, e61, e12, f1, f3, BX, BC, Aa, AU, l37, Ad, Ai, Ap, Ae, Al, st, st2]
  exact ⟨_, rfl, by simp only [AG, Nat.reduceLT, Nat.reduceEqDiff, if_true, if_false, reduceIte]; exact s3, by simp only [AG, Nat.reduceLT, Nat.reduceEqDiff, if_true, if_false, reduceIte]; exact s6⟩
theorem Ui (I : TdI g m um uw us w t ui ub b3 b4 b5 b6 B i kd e) (hop : w.2.1 = 4) (f1 : iEq w.2.2 0 = false) (f3 : iEq kd 1 = true) (s8 : AB 8 e = .bool false) (s9 : AB 9 e = .bool false) (e61 : iEq t.err 61 = true) (e12 : iEq t.err 12 = false) : ∃ e', tdC F e g = .norm e' g ∧ AB 3 e' = pt b3 ∧ AB 6 e' = pt b6 := by
  obtain ⟨l31, l37, l40, l41, l42, l53, l54, l55, lk, s3, s4, s5, s6, s7⟩ := I
  rw [hop] at l41
  unfold tdC
  simp only [sT, Nat.reduceLT, Nat.reduceEqDiff, if_true, if_false, reduceIte, gD, s3, s4, s5, s6, s7, s8, s9, AJ, AN, Nat.zero_add, Nat.add_zero, AP, AX, l31, l40, l41, l42, l53, l54, l55, lk, AZ, AY, B7, e61, e12, f1, f3, BX, BC, Aa, AU, l37, Ad, Ai, Ap, Ae, Al]
  exact ⟨_, rfl, by simp only [AG, Nat.reduceLT, Nat.reduceEqDiff, if_true, if_false, reduceIte]; exact s3, by simp only [AG, Nat.reduceLT, Nat.reduceEqDiff, if_true, if_false, reduceIte]; exact s6⟩
theorem Ug (I : TdI g m um uw us w t ui ub b3 b4 b5 b6 B i kd e) (hop : w.2.1 = 4) (f1 : iEq w.2.2 0 = false) (f3 : iEq kd 1 = true) (s8 : AB 8 e = .bool false) (s9 : AB 9 e = .bool false) (e61 : iEq t.err 61 = false) (e12 : iEq t.err 12 = true) {g1 g2 : Hp} (st : storeR 1 (.pointer (some ⟨B, i * 3, none⟩)) (.int .i64 4) g = .ok noRes g1) (st2 : storeR 1 (.pointer (some ⟨B, i * 3 + 1, none⟩)) (.bool false) g1 = .ok noRes g2) : ∃ e', tdC F e g = .norm e' g2 ∧ AB 3 e' = pt b3 ∧ AB 6 e' = pt b6 := by
  obtain ⟨l31, l37, l40, l41, l42, l53, l54, l55, lk, s3, s4, s5, s6, s7⟩ := I
  rw [hop] at l41
  unfold tdC
  simp only [sT, Nat.reduceLT, Nat.reduceEqDiff, if_true, if_false, reduceIte, gD, s3, s4, s5, s6, s7, s8, s9, AJ, AN, Nat.zero_add, Nat.add_zero, AP, AX, l31, l40, l41, l42, l53, l54, l55, lk, AZ, AY, B7, e61, e12, f1, f3, BX, BC, Aa, AU, l37, Ad, Ai, Ap, Ae, Al, st, st2]
  exact ⟨_, rfl, by simp only [AG, Nat.reduceLT, Nat.reduceEqDiff, if_true, if_false, reduceIte]; exact s3, by simp only [AG, Nat.reduceLT, Nat.reduceEqDiff, if_true, if_false, reduceIte]; exact s6⟩
theorem Y6 (I : TdI g m um uw us w t ui ub b3 b4 b5 b6 B i kd e) (hop : w.2.1 = 4) (f1 : iEq w.2.2 0 = false) (f3 : iEq kd 1 = true) (s8 : AB 8 e = .bool false) (s9 : AB 9 e = .bool false) (e61 : iEq t.err 61 = false) (e12 : iEq t.err 12 = false) : ∃ e', tdC F e g = .norm e' g ∧ AB 3 e' = pt b3 ∧ AB 6 e' = pt b6 := by
  obtain ⟨l31, l37, l40, l41, l42, l53, l54, l55, lk, s3, s4, s5, s6, s7⟩ := I
  rw [hop] at l41
  unfold tdC
  simp only [sT, Nat.reduceLT, Nat.reduceEqDiff, if_true, if_false, reduceIte, gD, s3, s4, s5, s6, s7, s8, s9, AJ, AN, Nat.zero_add, Nat.add_zero, AP, AX, l31, l40, l41, l42, l53, l54, l55, lk, AZ, AY, B7, e61, e12, f1, f3, BX, BC, Aa, AU, l37, Ad, Ai, Ap, Ae, Al]
  exact ⟨_, rfl, by simp only [AG, Nat.reduceLT, Nat.reduceEqDiff, if_true, if_false, reduceIte]; exact s3, by simp only [AG, Nat.reduceLT, Nat.reduceEqDiff, if_true, if_false, reduceIte]; exact s6⟩
end
end
end Go.Proofs.Ythcfmklkbakkpaa

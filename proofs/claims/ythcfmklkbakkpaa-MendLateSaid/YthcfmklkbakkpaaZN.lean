/-
  mend.told: what an answer makes of a mending: the choice, case by case. Printed by program (mdp.py).
-/
import Derived.Test.YthcfmklkbakkpaaZM
set_option linter.unusedVariables false
set_option linter.unusedSimpArgs false
namespace Go.Proofs.Ythcfmklkbakkpaa
noncomputable section
open Go Go.RowKit Go.ChangeShapes
set_option maxRecDepth 100000
set_option maxHeartbeats 0
section
variable {F : CallF} {e : Env} {g : Hp} {m : MD} {um uw us : Value} {w : Int × Int × Int} {t : TE} {ui ub : Value} {b3 b4 b5 b6 B i : Nat} {kd : Int}
theorem Yu (I : TdI g m um uw us w t ui ub b3 b4 b5 b6 B i kd e) (hop : w.2.1 = 4) (f1 : iEq w.2.2 0 = true) (f2 : iEq kd 0 = true) (f3 : iEq kd 1 = false) (s8 : AB 8 e = .bool true) (s9 : AB 9 e = .bool false) (e61 : iEq t.err 61 = false) (e12 : iEq t.err 12 = false) {g1 g2 : Hp} {v : Value} (ca : F 37 [mendV m um uw us, .int .i64 w.1, ui] g = .ok v g1) (st : storeR 3 (.pointer (some ⟨B, i * 3, none⟩)) v g1 = .ok noRes g2) : ∃ e', tdC F e g = .norm e' g2 ∧ AB 3 e' = pt b3 ∧ AB 6 e' = pt b6 := by
  obtain ⟨l31, l37, l40, l41, l42, l53, l54, l55, lk, s3, s4, s5, s6, s7⟩ := I
  rw [hop] at l41
  unfold tdC
  simp only [sT, Nat.reduceLT, Nat.reduceEqDiff, if_true, if_false, reduceIte, gD, s3, s4, s5, s6, s7, s8, s9, AJ, AN, Nat.zero_add, Nat.add_zero, AP, AX, l31, l40, l41, l42, l53, l54, l55, lk, AZ, AY, B7, e61, e12, f1, f2, f3, BX, BC, Aa, AU, l37, Ad, Ai, Ap, Ae, Al, ca, st]
  exact ⟨_, rfl, by simp only [AG, Nat.reduceLT, Nat.reduceEqDiff, if_true, if_false, reduceIte]; exact s3, by simp only [AG, Nat.reduceLT, Nat.reduceEqDiff, if_true, if_false, reduceIte]; exact s6⟩
theorem UY (I : TdI g m um uw us w t ui ub b3 b4 b5 b6 B i kd e) (hop : w.2.1 = 4) (f1 : iEq w.2.2 0 = true) (f2 : iEq kd 0 = true) (f3 : iEq kd 1 = false) (s8 : AB 8 e = .bool false) (s9 : AB 9 e = .bool true) (e61 : iEq t.err 61 = false) (e12 : iEq t.err 12 = false) : ∃ e', tdC F e g = .norm e' g ∧ AB 3 e' = pt b3 ∧ AB 6 e' = pt b6 := by
  obtain ⟨l31, l37, l40, l41, l42, l53, l54, l55, lk, s3, s4, s5, s6, s7⟩ := I
  rw [hop] at l41
  unfold tdC
  simp only [sT, Nat.reduceLT, Nat.reduceEqDiff, if_true, if_false, reduceIte, gD, s3, s4, s5, s6, s7, s8, s9, AJ, AN, Nat.zero_add, Nat.add_zero, AP, AX, l31, l40, l41, l42, l53, l54, l55, lk, AZ, AY, B7, e61, e12, f1, f2, f3, BX, BC, Aa, AU, l37, Ad, Ai, Ap, Ae, Al]
  exact ⟨_, rfl, by simp only [AG, Nat.reduceLT, Nat.reduceEqDiff, if_true, if_false, reduceIte]; exact s3, by simp only [AG, Nat.reduceLT, Nat.reduceEqDiff, if_true, if_false, reduceIte]; exact s6⟩
theorem UZ (I : TdI g m um uw us w t ui ub b3 b4 b5 b6 B i kd e) (hop : w.2.1 = 4) (f1 : iEq w.2.2 0 = true) (f2 : iEq kd 0 = true) (f3 : iEq kd 1 = false) (s8 : AB 8 e = .bool false) (s9 : AB 9 e = .bool false) (e61 : iEq t.err 61 = true) (e12 : iEq t.err 12 = false) : ∃ e', tdC F e g = .norm e' g ∧ AB 3 e' = pt b3 ∧ AB 6 e' = pt b6 := by
  obtain ⟨l31, l37, l40, l41, l42, l53, l54, l55, lk, s3, s4, s5, s6, s7⟩ := I
  rw [hop] at l41
  unfold tdC
  simp only [sT, Nat.reduceLT, Nat.reduceEqDiff, if_true, if_false, reduceIte, gD, s3, s4, s5, s6, s7, s8, s9, AJ, AN, Nat.zero_add, Nat.add_zero, AP, AX, l31, l40, l41, l42, l53, l54, l55, lk, AZ, AY, B7, e61, e12, f1, f2, f3, BX, BC, Aa, AU, l37, Ad, Ai, Ap, Ae, Al]
  exact ⟨_, rfl, by simp only [AG, Nat.reduceLT, Nat.reduceEqDiff, if_true, if_false, reduceIte]; exact s3, by simp only [AG, Nat.reduceLT, Nat.reduceEqDiff, if_true, if_false, reduceIte]; exact s6⟩
theorem UX (I : TdI g m um uw us w t ui ub b3 b4 b5 b6 B i kd e) (hop : w.2.1 = 4) (f1 : iEq w.2.2 0 = true) (f2 : iEq kd 0 = true) (f3 : iEq kd 1 = false) (s8 : AB 8 e = .bool false) (s9 : AB 9 e = .bool false) (e61 : iEq t.err 61 = false) (e12 : iEq t.err 12 = true) : ∃ e', tdC F e g = .norm e' g ∧ AB 3 e' = pt b3 ∧ AB 6 e' = pt b6 := by
  obtain ⟨l31, l37, l40, l41, l42, l53, l54, l55, lk, s3, s4, s5, s6, s7⟩ := I
  rw [hop] at l41
  unfold tdC
  simp only [sT, Nat.reduceLT, Nat.reduceEqDiff, if_true, if_false, reduceIte, gD, s3, s4, s5, s6, s7, s8, s9, AJ, AN, Nat.zero_add, Nat.add_zero, AP, AX, l31, l40, l41, l42, l53, l54, l55, lk, AZ, AY, B7, e61, e12, f1, f2, f3, BX, BC, Aa, AU, l37, Ad, Ai, Ap, Ae, Al]
  exact ⟨_, rfl, by simp only [AG, Nat.reduceLT, Nat.reduceEqDiff, if_true, if_false, reduceIte]; exact s3, by simp only [AG, Nat.reduceLT, Nat.reduceEqDiff, if_true, if_false, reduceIte]; exact s6⟩
theorem Yv (I : TdI g m um uw us w t ui ub b3 b4 b5 b6 B i kd e) (hop : w.2.1 = 4) (f1 : iEq w.2.2 0 = true) (f2 : iEq kd 0 = true) (f3 : iEq kd 1 = false) (s8 : AB 8 e = .bool false) (s9 : AB 9 e = .bool false) (e61 : iEq t.err 61 = false) (e12 : iEq t.err 12 = false) : ∃ e', tdC F e g = .norm e' g ∧ AB 3 e' = pt b3 ∧ AB 6 e' = pt b6 := by
  obtain ⟨l31, l37, l40, l41, l42, l53, l54, l55, lk, s3, s4, s5, s6, s7⟩ := I
  rw [hop] at l41
  unfold tdC
  simp only [sT, Nat.reduceLT, Nat.reduceEqDiff, if_true, if_false, reduceIte, gD, s3, s4, s5, s6, s7, s8, s9, AJ, AN, Nat.zero_add, Nat.add_zero, AP, AX, l31, l40, l41, l42, l53, l54, l55, lk, AZ, AY, B7, e61, e12, f1, f2, f3, BX, BC, Aa, AU, l37, Ad, Ai, Ap, Ae, Al]
  exact ⟨_, rfl, by simp only [AG, Nat.reduceLT, Nat.reduceEqDiff, if_true, if_false, reduceIte]; exact s3, by simp only [AG, Nat.reduceLT, Nat.reduceEqDiff, if_true, if_false, reduceIte]; exact s6⟩
theorem Yw (I : TdI g m um uw us w t ui ub b3 b4 b5 b6 B i kd e) (hop : w.2.1 = 3) (s8 : AB 8 e = .bool true) (s9 : AB 9 e = .bool false) (e61 : iEq t.err 61 = false) (e12 : iEq t.err 12 = false) {g2 : Hp} {u : Value} {a : Addr} {n c : Nat} (lx : load1 ⟨B, i * 3 + 2, none⟩ g.marked = .ok u g.marked) (hu : u = .slice (some a) (n + 1) c) (hc : n ≤ c) (hn : n ≤ 1000000) (st : ∀ (F : CallF) (e : Env) (x y : O), x e = .pointer (some ⟨B, i * 3 + 2, none⟩) → y e = .slice (some a) n c → Aj .free (AM 1 x y) F e g.marked = .ok noRes g2) : ∃ e', tdC F e g = .norm e' g2 ∧ AB 3 e' = pt b3 ∧ AB 6 e' = pt b6 := by
  obtain ⟨l31, l37, l40, l41, l42, l53, l54, l55, lk, s3, s4, s5, s6, s7⟩ := I
  rw [hop] at l41
  have ln : lenSR u g.marked = .ok (.int .i64 ((n + 1 : Nat) : Int)) g.marked := by rw [hu]; exact B1
  have ar : Lu Int.sub .i64 (.int .i64 ((n + 1 : Nat) : Int)) (.int .i64 1) g.marked = .ok (.int .i64 (n : Int)) g.marked := by
    have : Int.sub ((n + 1 : Nat) : Int) 1 = (n : Int) := by show ((n + 1 : Nat) : Int) - 1 = _; omega
    rw [He, this, Cg (by omega)]
  have ct : ∀ (F : CallF) (e : Env), AB 79 e = u → AB 85 e = .int .i64 (n : Int) → Ct 3 1 (AB 79) none (some (AB 85)) none F e g.marked = .ok (.slice (some a) n c) g.marked := fun F e e1 e2 => GQ (e1.trans hu) e2 (by omega)
  unfold tdC
  simp only [sT, Nat.reduceLT, Nat.reduceEqDiff, if_true, if_false, reduceIte, gD, s3, s4, s5, s6, s7, s8, s9, AJ, AN, Nat.zero_add, Nat.add_zero, AP, AX, l31, l40, l41, l42, l53, l54, l55, lk, AZ, AY, B7, e61, e12, BX, BC, Aa, AU, l37, Ad, Ai, Ap, Ae, Al, lx, ln, ar, ct, st, E3, Bc]
  exact ⟨_, rfl, by simp only [AG, Nat.reduceLT, Nat.reduceEqDiff, if_true, if_false, reduceIte]; exact s3, by simp only [AG, Nat.reduceLT, Nat.reduceEqDiff, if_true, if_false, reduceIte]; exact s6⟩
theorem Ub (I : TdI g m um uw us w t ui ub b3 b4 b5 b6 B i kd e) (hop : w.2.1 = 3) (s8 : AB 8 e = .bool false) (s9 : AB 9 e = .bool true) (e61 : iEq t.err 61 = false) (e12 : iEq t.err 12 = false) : ∃ e', tdC F e g = .norm e' g ∧ AB 3 e' = pt b3 ∧ AB 6 e' = pt b6 := by
  obtain ⟨l31, l37, l40, l41, l42, l53, l54, l55, lk, s3, s4, s5, s6, s7⟩ := I
  rw [hop] at l41
  unfold tdC
  simp only [sT, Nat.reduceLT, Nat.reduceEqDiff, if_true, if_false, reduceIte, gD, s3, s4, s5, s6, s7, s8, s9, AJ, AN, Nat.zero_add, Nat.add_zero, AP, AX, l31, l40, l41, l42, l53, l54, l55, lk, AZ, AY, B7, e61, e12, BX, BC, Aa, AU, l37, Ad, Ai, Ap, Ae, Al]
  exact ⟨_, rfl, by simp only [AG, Nat.reduceLT, Nat.reduceEqDiff, if_true, if_false, reduceIte]; exact s3, by simp only [AG, Nat.reduceLT, Nat.reduceEqDiff, if_true, if_false, reduceIte]; exact s6⟩
theorem Uc (I : TdI g m um uw us w t ui ub b3 b4 b5 b6 B i kd e) (hop : w.2.1 = 3) (s8 : AB 8 e = .bool false) (s9 : AB 9 e = .bool false) (e61 : iEq t.err 61 = true) (e12 : iEq t.err 12 = false) {g2 : Hp} (st : storeR 1 (.pointer (some ⟨b3, 3, none⟩)) (.int .i64 3) g = .ok noRes g2) : ∃ e', tdC F e g = .norm e' g2 ∧ AB 3 e' = pt b3 ∧ AB 6 e' = pt b6 := by
  obtain ⟨l31, l37, l40, l41, l42, l53, l54, l55, lk, s3, s4, s5, s6, s7⟩ := I
  rw [hop] at l41
  unfold tdC
  simp only [sT, Nat.reduceLT, Nat.reduceEqDiff, if_true, if_false, reduceIte, gD, s3, s4, s5, s6, s7, s8, s9, AJ, AN, Nat.zero_add, Nat.add_zero, AP, AX, l31, l40, l41, l42, l53, l54, l55, lk, AZ, AY, B7, e61, e12, BX, BC, Aa, AU, l37, Ad, Ai, Ap, Ae, Al, st]
  exact ⟨_, rfl, by simp only [AG, Nat.reduceLT, Nat.reduceEqDiff, if_true, if_false, reduceIte]; exact s3, by simp only [AG, Nat.reduceLT, Nat.reduceEqDiff, if_true, if_false, reduceIte]; exact s6⟩
theorem Ua (I : TdI g m um uw us w t ui ub b3 b4 b5 b6 B i kd e) (hop : w.2.1 = 3) (s8 : AB 8 e = .bool false) (s9 : AB 9 e = .bool false) (e61 : iEq t.err 61 = false) (e12 : iEq t.err 12 = true) : ∃ e', tdC F e g = .norm e' g ∧ AB 3 e' = pt b3 ∧ AB 6 e' = pt b6 := by
  obtain ⟨l31, l37, l40, l41, l42, l53, l54, l55, lk, s3, s4, s5, s6, s7⟩ := I
  rw [hop] at l41
  unfold tdC
  simp only [sT, Nat.reduceLT, Nat.reduceEqDiff, if_true, if_false, reduceIte, gD, s3, s4, s5, s6, s7, s8, s9, AJ, AN, Nat.zero_add, Nat.add_zero, AP, AX, l31, l40, l41, l42, l53, l54, l55, lk, AZ, AY, B7, e61, e12, BX, BC, Aa, AU, l37, Ad, Ai, Ap, Ae, Al]
  exact ⟨_, rfl, by simp only [AG, Nat.reduceLT, Nat.reduceEqDiff, if_true, if_false, reduceIte]; exact s3, by simp only [AG, Nat.reduceLT, Nat.reduceEqDiff, if_true, if_false, reduceIte]; exact s6⟩
theorem Yx (I : TdI g m um uw us w t ui ub b3 b4 b5 b6 B i kd e) (hop : w.2.1 = 3) (s8 : AB 8 e = .bool false) (s9 : AB 9 e = .bool false) (e61 : iEq t.err 61 = false) (e12 : iEq t.err 12 = false) : ∃ e', tdC F e g = .norm e' g ∧ AB 3 e' = pt b3 ∧ AB 6 e' = pt b6 := by
  obtain ⟨l31, l37, l40, l41, l42, l53, l54, l55, lk, s3, s4, s5, s6, s7⟩ := I
  rw [hop] at l41
  unfold tdC
  simp only [sT, Nat.reduceLT, Nat.reduceEqDiff, if_true, if_false, reduceIte, gD, s3, s4, s5, s6, s7, s8, s9, AJ, AN, Nat.zero_add, Nat.add_zero, AP, AX, l31, l40, l41, l42, l53, l54, l55, lk, AZ, AY, B7, e61, e12, BX, BC, Aa, AU, l37, Ad, Ai, Ap, Ae, Al]
  exact ⟨_, rfl, by simp only [AG, Nat.reduceLT, Nat.reduceEqDiff, if_true, if_false, reduceIte]; exact s3, by simp only [AG, Nat.reduceLT, Nat.reduceEqDiff, if_true, if_false, reduceIte]; exact s6⟩
end
end
end Go.Proofs.Ythcfmklkbakkpaa

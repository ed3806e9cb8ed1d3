/-
  'Begin' of ten thousand stripes and of one more: the two pieces.
-/
import Derived.Test.YtkafejncffinmaaBegin
set_option linter.unusedVariables false
set_option linter.unusedSimpArgs false
namespace Go.Proofs.Ytkafejncffinmaa.moveNumbers
open Go
set_option maxRecDepth 100000
theorem zero31 : ty31.zero = z3 := by kernel_rfl
theorem finish_3c {e : Env} {h : Hp} {g g' g'' : O} {n : Nat} {v : Value} (hv : loadsR n (g' e) h = .ok v h) : finish [.t g, .cN g' n, .t g''] e h = .ok (.tuple ⟨[g e, v, g'' e]⟩) h := by
  have h1 : result1 e h (.cN g' n) = .ok v h := hv
  show forceV (g e) (fun x => (match result1 e h (.cN g' n) with | .ok v _ => forceV v fun v => forceV (g'' e) (fun y => finish2 h [x, v, y]) | .no => .no)) = _
  rw [forceV_is, h1]
  simp only [forceV_is]; rfl
theorem at_start {pn n M S S9 N clk : Nat} {g11 : Value} {e : Env} {h : Hp} (w : Want pn n M S S9 N clk g11 e h) : At h h pn 105 M S N clk (.int .i64 4) (.int .i64 5) 0 (.slice none 0 0) where
  wf := w.wf
  low := w.low
  stay := fun _ _ _ => rfl
  next := w.next
  high := w.high
  row := k0_row w.b105
  map := w.bM
  cell := w.bS
  left := .inl ⟨rfl, rfl⟩
section
variable {F : CallF} {pn n M S S9 N clk : Nat} {g11 : Value} {e : Env} {h : Hp}
theorem loop_is (w : Want pn n M S S9 N clk g11 e h) (hP : pn ≤ S) (hS : S < N) (hM : M < N) (h5 : 105 < pn) (hMS : M ≠ S) (hn : 10000 ≤ n) (Q : X → Prop)
    (last : ∀ e' g' u, At h g' pn 105 M S N clk (.int .i64 4) (.int .i64 5) 10000 u → slotG 53 e' = .int .i64 ((10000 : Nat) : Int) → (∀ j, j < 320 → (j < 53 ∧ j ≠ 19) → slotG j e' = slotG j e) → ended (bodyB F e' g') = true ∧ Q (bodyB F e' g')) : Q (cLoop bodyB F e h) := by
  refine loop_run (I := fun i e' g' => i ≤ 10000 ∧ ∃ u, At h g' pn 105 M S N clk (.int .i64 4) (.int .i64 5) i u ∧ slotG 53 e' = .int .i64 (i : Int) ∧ (∀ j, j < 320 → (j < 53 ∧ j ≠ 19) → slotG j e' = slotG j e)) Q 10000 (by omega) (fun i e' g' ⟨hi, u, A, s53, hs⟩ => ?_) ⟨Nat.zero_le _, _, at_start w, w.s53, fun _ _ _ => rfl⟩
  rcases Nat.lt_or_ge i 10000 with hlt | hge
  · left
    obtain ⟨e2, g2, u2, r1, r2, r3, r4⟩ := round_is (F := F) A hP hS (by omega) hM (by omega) hMS hlt (n := n) (cap := 10001) (c0 := 1) (by omega) (a0 := some ⟨107, 0, none⟩)
      (by rw [hs 0 (by omega) (by omega)]; exact w.s0) (by rw [hs 14 (by omega) (by omega)]; exact w.s14) (by rw [hs 17 (by omega) (by omega)]; exact w.s17) (by rw [hs 51 (by omega) (by omega)]; exact w.s51) (by rw [hs 52 (by omega) (by omega)]; exact w.s52) s53
    exact ⟨hlt, e2, g2, r1, by omega, u2, r2, r3, fun j hj hj2 => (r4 j hj hj2).trans (hs j hj hj2)⟩
  · right
    obtain rfl : i = 10000 := by omega
    exact last e' g' u A s53 hs
/-- what is left of the function, behind ten thousand rounds of ten thousand -/
theorem rest_full (w : Want pn 10000 M S S9 N clk g11 e h) (hP : pn ≤ S9) (hP2 : pn ≤ S) (hS : S < N) (hM : M < N) (h5 : 107 < pn) (hMS : M ≠ S) (h9 : S9 < N) (h9S : S9 ≠ S) :
    ∃ g', leave [.t (slotG 8), .cN (slotG 9) 3, .t (slotG 10)] (restB F e h) = .ok (.tuple ⟨[g11, .agg ⟨[.int .i64 4, .int .i64 5, .slice (some ⟨N + 2 * 10000 - 1, 0, none⟩) 10000 10000]⟩, .int .i64 0]⟩) g' ∧ g'.next = N + 2 * 10000 ∧ pn ≤ g'.low ∧ g'.high ≤ g'.next ∧ ∀ b, b < pn → g'.bl.get b = h.bl.get b := by
  have L : ∃ e' g' u, cLoop bodyB F e h = .exit 2 e' g' ∧ At h g' pn 105 M S N clk (.int .i64 4) (.int .i64 5) 10000 u ∧ (∀ j, j < 320 → (j < 53 ∧ j ≠ 19) → slotG j e' = slotG j e) := by
    refine loop_is (F := F) w hP2 hS hM (by omega) hMS (Nat.le_refl _) (fun x => ∃ e' g' u, x = .exit 2 e' g' ∧ At h g' pn 105 M S N clk (.int .i64 4) (.int .i64 5) 10000 u ∧ (∀ j, j < 320 → (j < 53 ∧ j ≠ 19) → slotG j e' = slotG j e)) fun e' g' u A s53 hs => ?_
    have s52 := (hs 52 (by omega) (by omega)).trans w.s52
    have c1 : iLt ((10000 : Nat) : Int) ((10000 : Nat) : Int) = false := by rw [iLt_is]; simp
    have hrun : bodyB F e' g' = .exit 2 (Env.set 54 (.bool false) e') g' := by
      unfold bodyB
      simp only [cOp_is, cDo_is, cCond_is, cSeq_is, cBlock_is, cNorm_is, cRet_is, cExit_is, opX_ok, doX_ok, condX_true, condX_false, seqX_norm, seqX_exit, seqX_ret, blockX_norm, blockX_ret, blockX_exit, oMove_is, kV_is, slot_set, Nat.reduceLT, Nat.reduceEqDiff, if_true, if_false, reduceIte, oCmp_is, cmpR_is, s53, s52, c1]
    rw [hrun]
    refine ⟨rfl, _, _, _, rfl, A, fun j hj hj2 => ?_⟩
    rw [slot_other (by omega) (by omega) hj]
    exact hs j hj hj2
  obtain ⟨e', g', u, l1, A, hs⟩ := L
  have s9 := (hs 9 (by omega) (by omega)).trans w.s9
  have s11 := (hs 11 (by omega) (by omega)).trans w.s11
  have s17 := (hs 17 (by omega) (by omega)).trans w.s17
  have hu : u = .slice (some ⟨N + 2 * 10000 - 1, 0, none⟩) 10000 10000 := by
    rcases A.left with ⟨h0, _⟩ | ⟨_, h1, _⟩
    · cases h0
    · exact h1
  subst hu
  have W := A.wf
  have Cm : g'.marked.Row S 0 [.int .i64 4, .int .i64 5, .slice (some ⟨N + 2 * 10000 - 1, 0, none⟩) 10000 10000] := A.cell.same rfl
  have ld : loadN 3 ⟨S, 0, none⟩ g'.marked = .ok (.agg ⟨[.int .i64 4, .int .i64 5, .slice (some ⟨N + 2 * 10000 - 1, 0, none⟩) 10000 10000]⟩) _ := Cm.loadN (by simp)
  have R9 : g'.Row S9 0 z3 := Hp.Row.of_get w.bS9 (A.stay S9 h9 h9S)
  have R9q : g'.marked.quiet.Row S9 0 z3 := R9.same rfl
  have ho : 0 + [Value.int .i64 4, .int .i64 5, .slice (some ⟨N + 2 * 10000 - 1, 0, none⟩) 10000 10000].length ≤ z3.length := by simp [z3]
  have st := R9q.storeR (n := 3) (off := 0) W.marked.quiet (v := .agg ⟨[.int .i64 4, .int .i64 5, .slice (some ⟨N + 2 * 10000 - 1, 0, none⟩) 10000 10000]⟩) rfl ho rfl
  rw [cells_agg] at st
  have q1 : ∀ e, slotG 9 e = .pointer (some ⟨S9, 0, none⟩) → slotG 77 e = .agg ⟨[.int .i64 4, .int .i64 5, .slice (some ⟨N + 2 * 10000 - 1, 0, none⟩) 10000 10000]⟩ → oQuiet .free (oStore 3 (slotG 9) (slotG 77)) F e g'.marked = .ok noRes (g'.marked.back (g'.marked.quiet.wr S9 0 [.int .i64 4, .int .i64 5, .slice (some ⟨N + 2 * 10000 - 1, 0, none⟩) 10000 10000])) := fun e h1 h2 => quiet_free (by rw [oStore_is, h1, h2]; exact st)
  have R9w := R9q.wr_self W.marked.quiet ho
  obtain ⟨cc, _, ew, _⟩ := R9q.wr_is ho
  have ld9 : loadN 3 ⟨S9, 0, none⟩ (g'.marked.back (g'.marked.quiet.wr S9 0 [.int .i64 4, .int .i64 5, .slice (some ⟨N + 2 * 10000 - 1, 0, none⟩) 10000 10000])) = .ok (.agg ⟨[.int .i64 4, .int .i64 5, .slice (some ⟨N + 2 * 10000 - 1, 0, none⟩) 10000 10000]⟩) _ := (R9w.same (h' := g'.marked.back (g'.marked.quiet.wr S9 0 [.int .i64 4, .int .i64 5, .slice (some ⟨N + 2 * 10000 - 1, 0, none⟩) 10000 10000])) rfl).loadN (by simp [over, z3])
  refine ⟨g'.marked.back (g'.marked.quiet.wr S9 0 [.int .i64 4, .int .i64 5, .slice (some ⟨N + 2 * 10000 - 1, 0, none⟩) 10000 10000]), ?_, ?_, ?_, ?_, fun b hb => ?_⟩
  · have hrun : ∃ e2, restB F e h = .ret e2 (g'.marked.back (g'.marked.quiet.wr S9 0 [.int .i64 4, .int .i64 5, .slice (some ⟨N + 2 * 10000 - 1, 0, none⟩) 10000 10000])) ∧ slotG 8 e2 = g11 ∧ slotG 9 e2 = .pointer (some ⟨S9, 0, none⟩) ∧ slotG 10 e2 = .int .i64 0 := by
      unfold restB
      simp only [cOp_is, cDo_is, cCond_is, cSeq_is, cBlock_is, cNorm_is, cRet_is, cExit_is, opX_ok, doX_ok, condX_true, condX_false, seqX_norm, seqX_exit, seqX_ret, blockX_norm, blockX_ret, blockX_exit, oMove_is, kV_is, slot_set, Nat.reduceLT, Nat.reduceEqDiff, if_true, if_false, reduceIte, l1, marked_is, oLoadN_is, loadsR_is, s17, ld, s11, s9, q1]
      exact ⟨_, rfl, by simp only [slot_set, Nat.reduceLT, Nat.reduceEqDiff, if_true, if_false, reduceIte], by simp only [slot_set, Nat.reduceLT, Nat.reduceEqDiff, if_true, if_false, reduceIte, s9], by simp only [slot_set, Nat.reduceLT, Nat.reduceEqDiff, if_true, if_false, reduceIte]⟩
    obtain ⟨e2, r1, r2, r3, r4⟩ := hrun
    rw [r1, leave_ret, finish_3c (v := .agg ⟨[.int .i64 4, .int .i64 5, .slice (some ⟨N + 2 * 10000 - 1, 0, none⟩) 10000 10000]⟩) (by rw [r3]; exact ld9), r2, r4]
  · show (g'.marked.quiet.wr S9 0 _).next = _
    rw [R9q.wr_next ho]; exact A.next
  · show pn ≤ minN g'.low (g'.marked.quiet.wr S9 0 _).low
    rw [ew]
    show pn ≤ minN g'.low (minN g'.next S9)
    rw [minN_is, minN_is]
    have := A.low; have := A.next; omega
  · show maxN g'.high (g'.marked.quiet.wr S9 0 _).high ≤ (g'.marked.quiet.wr S9 0 _).next
    rw [R9q.wr_next ho, ew]
    show maxN g'.high (maxN 0 S9) ≤ g'.next
    rw [maxN_is, maxN_is]
    have := A.high; have := A.next; omega
  · show (g'.marked.quiet.wr S9 0 _).bl.get b = _
    rw [ew, W.marked.quiet.put_get (R9q.lt W.marked.quiet), if_neg (by omega)]
    exact A.stay b (by omega) (by omega)
/-- and of one more: there are too many -/
theorem rest_many (w : Want pn 10001 M S S9 N clk g11 e h) (hP : pn ≤ S9) (hP2 : pn ≤ S) (hS : S < N) (hM : M < N) (h5 : 107 < pn) (hMS : M ≠ S) (h9 : S9 < N) (h9S : S9 ≠ S) :
    ∃ g', leave [.t (slotG 8), .cN (slotG 9) 3, .t (slotG 10)] (restB F e h) = .ok (.tuple ⟨[.slice none 0 0, .agg ⟨z3⟩, .int .i64 5]⟩) g' ∧ g'.next = N + 2 * 10000 ∧ pn ≤ g'.low ∧ g'.high ≤ g'.next ∧ ∀ b, b < pn → g'.bl.get b = h.bl.get b := by
  have L : ∃ e' g', cLoop bodyB F e h = .ret e' g' ∧ slotG 8 e' = .slice none 0 0 ∧ slotG 9 e' = .pointer (some ⟨S9, 0, none⟩) ∧ slotG 10 e' = .int .i64 5 ∧ loadN 3 ⟨S9, 0, none⟩ g' = .ok (.agg ⟨z3⟩) g' ∧ g'.next = N + 2 * 10000 ∧ pn ≤ g'.low ∧ g'.high ≤ g'.next ∧ ∀ b, b < pn → g'.bl.get b = h.bl.get b := by
    refine loop_is (F := F) w hP2 hS hM (by omega) hMS (by omega) (fun x => ∃ e' g', x = .ret e' g' ∧ slotG 8 e' = .slice none 0 0 ∧ slotG 9 e' = .pointer (some ⟨S9, 0, none⟩) ∧ slotG 10 e' = .int .i64 5 ∧ loadN 3 ⟨S9, 0, none⟩ g' = .ok (.agg ⟨z3⟩) g' ∧ g'.next = N + 2 * 10000 ∧ pn ≤ g'.low ∧ g'.high ≤ g'.next ∧ ∀ b, b < pn → g'.bl.get b = h.bl.get b) fun e' g' u A s53 hs => ?_
    have s0 := (hs 0 (by omega) (by omega)).trans w.s0
    have s9 := (hs 9 (by omega) (by omega)).trans w.s9
    have s14 := (hs 14 (by omega) (by omega)).trans w.s14
    have s17 := (hs 17 (by omega) (by omega)).trans w.s17
    have s51 := (hs 51 (by omega) (by omega)).trans w.s51
    have s52 := (hs 52 (by omega) (by omega)).trans w.s52
    have hu : u = .slice (some ⟨N + 2 * 10000 - 1, 0, none⟩) 10000 10000 := by
      rcases A.left with ⟨h0, _⟩ | ⟨_, h1, _⟩
      · cases h0
      · exact h1
    subst hu
    have W := A.wf
    have c1 : iLt ((10000 : Nat) : Int) ((10001 : Nat) : Int) = true := rfl
    have cx : idxSR 1 (.slice (some ⟨105, 0, none⟩) 10001 10001) (.int .i64 ((10000 : Nat) : Int)) g' = .ok (.pointer (some ⟨105, 10000, none⟩)) g' := idxSR_is (by omega)
    have l0 : load1 ⟨105, 10000, none⟩ g' = .ok (.int .i64 ((10000 : Nat) : Int)) g' := by
      have := A.row.load1 (off := 10000) (by rw [upL_len]; omega)
      have e1 : (upL 10001).getD 10000 noRes = iv 10000 := by
        unfold upL
        rw [List.getD_eq_getElem?_getD, List.getElem?_map, List.getElem?_range (by omega)]; rfl
      rw [e1] at this
      exact this
    have c2' : remR .i64 (.int .i64 ((10000 : Nat) : Int)) (.int .i64 ((1 : Nat) : Int)) g' = .ok (.int .i64 ((0 : Nat) : Int)) g' := by
      have := remR_is (h := g') (j := .i64) (m := ((10000 : Nat) : Int)) (n := ((1 : Nat) : Int)) (by omega)
      rw [this]; rfl
    have c3' := look_is (h := g') A.map
    have c4 : iEq 1 0 = false := rfl
    have l2 : load1 ⟨S, 2, none⟩ g' = .ok (.slice (some ⟨N + 2 * 10000 - 1, 0, none⟩) 10000 10000) g' := A.cell.load1 (by simp)
    have c5 : lenSR (.slice (some ⟨N + 2 * 10000 - 1, 0, none⟩) 10000 10000) g' = .ok (.int .i64 ((10000 : Nat) : Int)) g' := rfl
    have c6 : iGe ((10000 : Nat) : Int) 10000 = true := rfl
    have R9 : g'.Row S9 0 z3 := Hp.Row.of_get w.bS9 (A.stay S9 h9 h9S)
    have ho : 0 + z3.length ≤ z3.length := by omega
    have st := R9.storeR (n := 3) (off := 0) W (v := .agg ⟨z3⟩) rfl ho rfl
    rw [cells_agg] at st
    have R9w := R9.wr_self W ho
    obtain ⟨cc, _, ew, _⟩ := R9.wr_is ho
    have ld9 : loadN 3 ⟨S9, 0, none⟩ (g'.wr S9 0 z3) = .ok (.agg ⟨z3⟩) _ := R9w.loadN (by simp [over, z3])
    have hrun : ∃ e2, bodyB F e' g' = .ret e2 (g'.wr S9 0 z3) ∧ slotG 8 e2 = .slice none 0 0 ∧ slotG 9 e2 = .pointer (some ⟨S9, 0, none⟩) ∧ slotG 10 e2 = .int .i64 5 := by
      unfold bodyB
      simp only [cOp_is, cDo_is, cCond_is, cSeq_is, cBlock_is, cNorm_is, cRet_is, cExit_is, opX_ok, doX_ok, condX_true, condX_false, seqX_norm, seqX_exit, seqX_ret, blockX_norm, blockX_ret, blockX_exit, oMove_is, kV_is, slot_set, Nat.reduceLT, Nat.reduceEqDiff, if_true, if_false, reduceIte, oCmp_is, cmpR_is, s53, s52, c1, oIdx_is, s51, cx, oLoad1_is, loadR_is, l0, oLenS_is, s0, lenSR_is, oRem_is, c2', oLookup_is, s14, c3', c4, oFieldAddr_is', s17, fieldAR_is, Nat.zero_add, l2, c5, c6, oBuild_is, zero31, fillL_nil, oStore_is, s9, st]
      exact ⟨_, rfl, by simp only [slot_set, Nat.reduceLT, Nat.reduceEqDiff, if_true, if_false, reduceIte], by simp only [slot_set, Nat.reduceLT, Nat.reduceEqDiff, if_true, if_false, reduceIte, s9], by simp only [slot_set, Nat.reduceLT, Nat.reduceEqDiff, if_true, if_false, reduceIte]⟩
    obtain ⟨e2, r1, r2, r3, r4⟩ := hrun
    rw [r1]
    refine ⟨rfl, _, _, rfl, r2, r3, r4, ld9, (R9.wr_next ho).trans A.next, ?_, ?_, fun b hb => ?_⟩
    · rw [ew]
      show pn ≤ minN g'.low S9
      rw [minN_is]; have := A.low; omega
    · rw [R9.wr_next ho, ew]
      show maxN g'.high S9 ≤ g'.next
      rw [maxN_is]; have := A.high; have := A.next; omega
    · rw [ew, W.put_get (R9.lt W), if_neg (by omega)]
      exact A.stay b (by omega) (by omega)
  obtain ⟨e', g', l1, l2, l3, l4, l5, l6, l7, l8, l9⟩ := L
  refine ⟨g', ?_, l6, l7, l8, l9⟩
  have hrun : restB F e h = .ret e' g' := by
    unfold restB
    simp only [cOp_is, cDo_is, cCond_is, cSeq_is, cBlock_is, cNorm_is, cRet_is, cExit_is, opX_ok, doX_ok, condX_true, condX_false, seqX_norm, seqX_exit, seqX_ret, blockX_norm, blockX_ret, blockX_exit, oMove_is, kV_is, slot_set, Nat.reduceLT, Nat.reduceEqDiff, if_true, if_false, reduceIte, l1]
  rw [hrun, leave_ret, finish_3c (v := .agg ⟨z3⟩) (by rw [l3]; exact l5), l2, l4]
end
/-- a piece that comes to what is said, out of what has been shown of it -/
theorem right_is {p : Piece} {d : Nat} {r : R} {v : Value} {g h1 : Hp} (hr : r = .ok v g) (hv : eqv 8 v p.v = true) (hn : g.next = p.next1) (hl : p.lo ≤ g.low) (hh : g.high ≤ p.hi) (hpost : p.post = []) (hwas : p.was = []) (hs : holds h1.bl p.same = true) (hu : under p.next p.same = true) (hk : ∀ b, b < p.next → g.bl.get b = h1.bl.get b) : p.right d r = true := by
  have same : ∀ l : BL, holds h1.bl l = true → under p.next l = true → holds g.bl l = true := by
    intro l
    induction l with
    | nil => intro _ _; rfl
    | cons x l ih =>
      intro a b
      obtain ⟨a1, a2⟩ := bif_true a
      obtain ⟨b1, b2⟩ := bif_true b
      show (bif eqB (g.bl.get x.1) x.2 then holds g.bl l else false) = true
      rw [hk x.1 (nat_blt.1 b1), a1, ih a2 b2]; rfl
  rw [hr]
  unfold Piece.right
  simp only [hv, nat_beq.2 hn, nat_ble.2 hl, nat_ble.2 hh, hpost, hwas, same _ hs hu, cond_true]
  rfl
theorem callM8 {n : Nat} {args : List Value} {h : Hp} (hl : Nat.ble (lenL args) 320 = true) : callM bodies m1 (Nat.succ n) 8 args h = leave [.t (slotG 8), .cN (slotG 9) 3, .t (slotG 10)] (fullB (callM bodies m1 n) (setArgs e0 0 args) h) := by
  have h1 : m1.get 8 = [] := by kernel_rfl
  have h2 : bodies.get 8 = some b8 := by kernel_rfl
  have h3 : b8 = ⟨[.t (slotG 8), .cN (slotG 9) 3, .t (slotG 10)], fullB⟩ := by kernel_rfl
  show piecesF args h (match bodies.get 8 with | some b => enter (callM bodies m1 n) b args h | none => .no) (m1.get 8) = _
  rw [h1, h2, h3]
  exact enter_is hl
noncomputable def p1 : Piece := ⟨8, [(.slice (some ⟨107, 0, none⟩) 1 1), (i 4), (i 5), (.slice (some ⟨105, 0, none⟩) 10000 10001)], 108, [(105, k0), (106, k1), (107, k2)], [], (.tuple ⟨[(.slice (some ⟨125, 0, none⟩) 1 1), (.agg ⟨[(i 4), (i 5), (.slice (some ⟨20127, 0, none⟩) 10000 10000)]⟩), (i 0)]⟩), 20128, [], 108, 20128⟩
noncomputable def p3 : Piece := ⟨8, [(.slice (some ⟨107, 0, none⟩) 1 1), (i 4), (i 5), (.slice (some ⟨105, 0, none⟩) 10001 10001)], 20129, [(105, k0), (106, k1), (107, k2)], [], (.tuple ⟨[(.slice none 0 0), (.agg ⟨[(i 0), (i 0), (.slice none 0 0)]⟩), (i 5)]⟩), 40149, [], 20129, 40149⟩
set_option maxHeartbeats 0 in
theorem want1 : wantB 108 10000 126 127 108 128 1 (.slice (some ⟨125, 0, none⟩) 1 1) (preB (callM bodies m1 63) (setArgs e0 0 p1.args) (p1.h0 16)) = true := by kernel_rfl
set_option maxHeartbeats 0 in
theorem want3 : wantB 20129 10001 20147 20148 20129 20149 1 (.slice (some ⟨20146, 0, none⟩) 1 1) (preB (callM bodies m1 63) (setArgs e0 0 p3.args) (p3.h0 16)) = true := by kernel_rfl
theorem p1_ok : PieceOk Try.prog ty 8 p1 := by
  refine ⟨rfl, _, 16, calls_m1 64, ?_⟩
  obtain ⟨e, h, hx, w⟩ := want_ok want1
  obtain ⟨g', r1, r2, r3, r4, r5⟩ := rest_full (F := callM bodies m1 63) w (by omega) (by omega) (by omega) (by omega) (by omega) (by omega) (by omega) (by omega)
  refine right_is (h1 := h) (g := g') (v := .tuple ⟨[.slice (some ⟨125, 0, none⟩) 1 1, .agg ⟨[.int .i64 4, .int .i64 5, .slice (some ⟨128 + 2 * 10000 - 1, 0, none⟩) 10000 10000]⟩, .int .i64 0]⟩) ?_ (by kernel_rfl) r2 r3 (by have h2 : g'.next = 20128 := r2; show g'.high ≤ 20128; omega) rfl rfl ?_ (by kernel_rfl) r5
  · show callM bodies m1 (Nat.succ 63) 8 p1.args (p1.h0 16) = _
    rw [callM8 (by kernel_rfl), full_is, hx]
    exact r1
  · show (bif eqB (h.bl.get 105) k0 then (bif eqB (h.bl.get 106) k1 then (bif eqB (h.bl.get 107) k2 then true else false) else false) else false) = true
    rw [w.b105, w.b106, w.b107]
    kernel_rfl
theorem p3_ok : PieceOk Try.prog ty 8 p3 := by
  refine ⟨rfl, _, 16, calls_m1 64, ?_⟩
  obtain ⟨e, h, hx, w⟩ := want_ok want3
  obtain ⟨g', r1, r2, r3, r4, r5⟩ := rest_many (F := callM bodies m1 63) w (by omega) (by omega) (by omega) (by omega) (by omega) (by omega) (by omega) (by omega)
  refine right_is (h1 := h) (g := g') (v := .tuple ⟨[.slice none 0 0, .agg ⟨z3⟩, .int .i64 5]⟩) ?_ (by kernel_rfl) r2 r3 (by have h2 : g'.next = 40149 := r2; show g'.high ≤ 40149; omega) rfl rfl ?_ (by kernel_rfl) r5
  · show callM bodies m1 (Nat.succ 63) 8 p3.args (p3.h0 16) = _
    rw [callM8 (by kernel_rfl), full_is, hx]
    exact r1
  · show (bif eqB (h.bl.get 105) k0 then (bif eqB (h.bl.get 106) k1 then (bif eqB (h.bl.get 107) k2 then true else false) else false) else false) = true
    rw [w.b105, w.b106, w.b107]
    kernel_rfl
end Go.Proofs.Ytkafejncffinmaa.moveNumbers

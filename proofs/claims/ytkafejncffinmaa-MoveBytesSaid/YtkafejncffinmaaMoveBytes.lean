/-
  move.Read: what it gives, whatever bytes it is handed.
  'MoveBytes', on the machine: true for any move, any cut, any bytes.
  'MoveBytes' of layer 17 answers true, whatever memory it is called in, whatever move, cut and bytes it is handed and whatever the tape answers: no condition. What the canonical machine gives is shown for any of them (YtkafejncffinmaaMbs); that machine is sound for the model (YtkafejncffinmaaFns).
-/
import Derived.Test.YtkafejncffinmaaVary
import Derived.Test.YtkafejncffinmaaRows
import Derived.ProofKit
import Derived.OpenShut
import Derived.Carry
set_option linter.unusedVariables false
set_option linter.unusedSimpArgs false
namespace Go.Proofs.Ytkafejncffinmaa
open Go
set_option maxRecDepth 100000

/-! ### one number of at most so much -/
def nxV (l : List Nat) (most : Nat) (bad : Bool) (p : Nat) : Nat × Bool × Nat := if bad = true then (0, true, p) else match uget 0 0 (l.drop p) with
  | none => (0, true, p)
  | some (v, j) => if v ≤ most then (v, false, p + j) else (0, true, p)
theorem nxV_bad {l : List Nat} {most p : Nat} : nxV l most true p = (0, true, p) := rfl
theorem nxV_none {l : List Nat} {most p : Nat} (h : uget 0 0 (l.drop p) = none) : nxV l most false p = (0, true, p) := by
  unfold nxV
  rw [if_neg (by decide), h]
theorem nxV_some {l : List Nat} {most p v j : Nat} (h : uget 0 0 (l.drop p) = some (v, j)) : nxV l most false p = if v ≤ most then (v, false, p + j) else (0, true, p) := by
  unfold nxV
  rw [if_neg (by decide), h]
theorem nxV_le {l : List Nat} (hb : ∀ x ∈ l, x < 256) {most p : Nat} {bad : Bool} (hp : p ≤ l.length) : (nxV l most bad p).2.2 ≤ l.length ∧ (nxV l most bad p).1 ≤ most ∧ (bad = true → (nxV l most bad p).2.1 = true) ∧ ((nxV l most bad p).2.1 = true → (nxV l most bad p).1 = 0) := by
  cases bad with
  | true => rw [nxV_bad]; exact ⟨hp, Nat.zero_le _, fun _ => rfl, fun _ => rfl⟩
  | false =>
    cases hu : uget 0 0 (l.drop p) with
    | none => rw [nxV_none hu]; exact ⟨hp, Nat.zero_le _, (fun h => by cases h), fun _ => rfl⟩
    | some vj =>
      obtain ⟨v, j⟩ := vj
      rw [nxV_some hu]
      have := ug_le (fun x hx => hb x (List.mem_of_mem_drop hx)) hu
      rw [List.length_drop] at this
      by_cases hv : v ≤ most
      · rw [if_pos hv]; exact ⟨by show p + j ≤ _; omega, hv, (fun h => by cases h), (fun h => by cases h)⟩
      · rw [if_neg hv]; exact ⟨hp, Nat.zero_le _, (fun h => by cases h), fun _ => rfl⟩
theorem readN_nx (l : List Nat) (p k : Nat) (last : Int) : readN (k + 1) last (l.drop p) = if (nxV l 1099511627776 false p).2.1 = true ∨ 1099511627776 < last + ((nxV l 1099511627776 false p).1 : Int) then none else (match readN k (last + ((nxV l 1099511627776 false p).1 : Int)) (l.drop (nxV l 1099511627776 false p).2.2) with
    | some (xs, q) => some ((last + ((nxV l 1099511627776 false p).1 : Int)) :: xs, q)
    | none => none) := by
  cases hu : uget 0 0 (l.drop p) with
  | none =>
    rw [nxV_none hu, if_pos (.inl rfl), readN, hu]
  | some vj =>
    obtain ⟨v, j⟩ := vj
    rw [nxV_some hu, readN, hu]
    by_cases hv : v ≤ 1099511627776
    · rw [if_pos hv]
      by_cases h2 : last + (v : Int) ≤ 1099511627776
      · have h3 : ¬ (false = true ∨ 1099511627776 < last + (v : Int)) := by
          rintro (h | h)
          · cases h
          · omega
        simp only
        rw [if_pos ⟨hv, h2⟩, if_neg h3, List.drop_drop]
        rfl
      · simp only
        rw [if_neg (fun h => h2 h.2), if_pos (.inr (by omega))]
    · rw [if_neg hv]
      simp only
      rw [if_neg (fun h => hv h.1), if_pos (.inl (by first | rfl | trivial))]
theorem readA_nx (l : List Nat) : ∀ s1 s2 s3, s1 = nxV l 256 false 0 → s2 = nxV l 256 s1.2.1 s1.2.2 → s3 = nxV l 10000 s2.2.1 s2.2.2 →
    readA l = if s3.2.1 = true then none else (match readN s3.1 0 (l.drop s3.2.2) with
      | none => none
      | some (xs, q) => some ((s1.1 : Int), (s2.1 : Int), xs, q)) := by
  intro s1 s2 s3 h1 h2 h3
  unfold readA
  cases hu : uget 0 0 l with
  | none =>
    rw [nxV_none (by rw [List.drop_zero]; exact hu)] at h1
    subst h1
    have h2 : s2 = (0, true, 0) := h2
    subst h2
    have h3 : s3 = (0, true, 0) := h3
    subst h3
    rfl
  | some vj =>
    obtain ⟨f, j⟩ := vj
    rw [nxV_some (by rw [List.drop_zero]; exact hu)] at h1
    simp only
    by_cases hf : f ≤ 256
    · rw [if_pos hf] at h1 ⊢
      subst h1
      simp only [Nat.zero_add] at h2 ⊢
      cases hu2 : uget 0 0 (l.drop j) with
      | none =>
        rw [nxV_none hu2] at h2
        subst h2
        have h3 : s3 = (0, true, j) := h3
        subst h3
        rfl
      | some vj2 =>
        obtain ⟨t, j2⟩ := vj2
        rw [nxV_some hu2] at h2
        simp only
        by_cases ht : t ≤ 256
        · rw [if_pos ht] at h2 ⊢
          subst h2
          simp only at h3 ⊢
          rw [List.drop_drop]
          cases hu3 : uget 0 0 (l.drop (j + j2)) with
          | none =>
            rw [nxV_none hu3] at h3
            subst h3
            rfl
          | some vj3 =>
            obtain ⟨m, j3⟩ := vj3
            rw [nxV_some hu3] at h3
            simp only
            by_cases hm : m ≤ 10000
            · rw [if_pos hm] at h3 ⊢
              subst h3
              simp only
              rw [List.drop_drop, if_neg (by decide)]
              rfl
            · rw [if_neg hm] at h3 ⊢
              subst h3
              rfl
        · rw [if_neg ht] at h2 ⊢
          subst h2
          have h3 : s3 = (0, true, j) := h3
          subst h3
          rfl
    · rw [if_neg hf] at h1 ⊢
      subst h1
      have h2 : s2 = (0, true, 0) := h2
      subst h2
      have h3 : s3 = (0, true, 0) := h3
      subst h3
      rfl
/-- the cells of a number that is read -/
def ptr (b : Nat) : Value := .pointer (some ⟨b, 0, none⟩)
structure NxAfter (h0 h h' : Hp) (b4 b5 : Nat) (s : Nat × Bool × Nat) : Prop where
  ext : h0.Ext h'
  next : h'.next = h.next
  r4 : h'.Row b4 0 [.int .i64 (s.2.2 : Int)]
  r5 : h'.Row b5 0 [.bool s.2.1]
  keep : ∀ b el L, b ≠ b4 → b ≠ b5 → h.Row b el L → h'.Row b el L
theorem next_is {n : Nat} {h0 h : Hp} (W0 : h0.Wf) (x : h0.Ext h) {u : Value} {l : List Nat} (V : h0.Vals u (l.map bv)) (hb : ∀ x ∈ l, x < 256) (hl : l.length ≤ 1000000) {b1 b4 b5 p : Nat} {bad : Bool} (r1 : h.Row b1 0 [u]) (r4 : h.Row b4 0 [.int .i64 (p : Int)]) (r5 : h.Row b5 0 [.bool bad])
    (h14 : b1 ≠ b4) (h15 : b1 ≠ b5) (h45 : b4 ≠ b5) (hb4 : h0.next ≤ b4) (hb5 : h0.next ≤ b5) (hp : p ≤ l.length) {most : Nat} (hm : most ≤ 1099511627776) :
    ∃ h', call bodies (n + 2) 37 [.int .i64 (most : Int), ptr b5, ptr b1, ptr b4] h = .ok (.int .i64 ((nxV l most bad p).1 : Int)) h' ∧ NxAfter h0 h h' b4 b5 (nxV l most bad p) := by
  have W := x.wf
  have ld5 : load1 ⟨b5, 0, none⟩ h = .ok (.bool bad) h := r5.load1 (off := 0) (by simp)
  cases bad with
  | true =>
    rw [nxV_bad]
    refine ⟨h, ?_, x, rfl, r4, r5, fun _ _ _ _ _ r => r⟩
    rw [call37 rfl]
    unfold d37 ptr
    simp only [setArgs_cons, setArgs_nil, Nat.succ_eq_add_one, Nat.zero_add, Nat.reduceAdd, cOp_is, cDo_is, cCond_is, cSeq_is, cBlock_is, cNorm_is, cRet_is, cExit_is, opX_ok, doX_ok, condX_true, condX_false, seqX_norm, seqX_exit, seqX_ret, blockX_norm, blockX_ret, blockX_exit, oMove_is, kV_is, slot_set, Nat.reduceLT, Nat.reduceEqDiff, if_true, if_false, reduceIte, oLoad1_is, loadR_is, ld5, leave_ret, finish_1]; rfl
  | false =>
    have ld1 : load1 ⟨b1, 0, none⟩ h = .ok u h := r1.load1 (off := 0) (by simp)
    have ld4 : load1 ⟨b4, 0, none⟩ h = .ok (.int .i64 (p : Int)) h := r4.load1 (off := 0) (by simp)
    obtain ⟨A, B, C, k1, k2⟩ := get_is (n := n) (V.ext W0 x) hb hp hl
    have cm : convR .u64 (.int .i64 (most : Int)) h = .ok (.int .u64 (most : Int)) h := by rw [convR_is, wrap_u64 (by omega)]
    have h256 : 256 ≤ b5 := Nat.le_trans W0.big hb5
    have h256' : 256 ≤ b4 := Nat.le_trans W0.big hb4
    -- the flag is set
    have fin : ∀ bd : Bool, ∃ g, storeR 1 (ptr b5) (.bool bd) h = .ok noRes g ∧ h0.Ext g ∧ g.next = h.next ∧ g.Row b5 0 [.bool bd] ∧ ∀ b el L, b ≠ b5 → h.Row b el L → g.Row b el L := fun bd => by
      have st := r5.storeR (n := 1) (off := 0) W h256 (v := .bool bd) rfl (by simp [cellsOf]) rfl
      exact ⟨_, st, r5.wr_ext x hb5 (by simp [cellsOf]), r5.wr_next (by simp [cellsOf]), r5.wr_self W (by simp [cellsOf]), fun b el L hne r => r5.wr_other W (by simp [cellsOf]) r hne⟩
    by_cases hgood : ∃ v j, uget 0 0 (l.drop p) = some (v, j) ∧ v ≤ most
    · obtain ⟨v, j, hu, hv⟩ := hgood
      rw [nxV_some hu, if_pos hv]
      rcases k2 with ⟨v', j', hu', rfl, rfl, rfl⟩ | ⟨hno, _⟩
      · rw [hu] at hu'
        cases hu'
        obtain ⟨g, s1, s2, s3, s4, s5⟩ := fin false
        have c1 : iGt (v : Int) (most : Int) = false := by rw [iGt_is]; simp; omega
        have c0 : iNe 0 0 = false := rfl
        have ld6 : load1 ⟨b5, 0, none⟩ g = .ok (.bool false) g := s4.load1 (off := 0) (by simp)
        have R4 := s5 b4 _ _ h45 r4
        have st := R4.storeR (n := 1) (off := 0) s2.wf h256' (v := .int .i64 ((p + j : Nat) : Int)) rfl (by simp [cellsOf]) rfl
        have wv : convR .i64 (.int .u64 (v : Int)) (g.wr b4 0 (cellsOf (.int .i64 ((p + j : Nat) : Int)))) = .ok (.int .i64 (v : Int)) (g.wr b4 0 (cellsOf (.int .i64 ((p + j : Nat) : Int)))) := by rw [convR_is, wrap_nat (by omega)]
        refine ⟨g.wr b4 0 (cellsOf (.int .i64 ((p + j : Nat) : Int))), ?_, R4.wr_ext s2 hb4 (by simp [cellsOf]), (R4.wr_next (by simp [cellsOf])).trans s3, R4.wr_self s2.wf (by simp [cellsOf]), R4.wr_other s2.wf (by simp [cellsOf]) s4 (fun h => h45 h.symm), fun b el L h4 h5 r => R4.wr_other s2.wf (by simp [cellsOf]) (s5 b el L h5 r) h4⟩
        rw [call37 rfl]
        unfold d37
        unfold ptr at s1 ⊢
        simp only [setArgs_cons, setArgs_nil, Nat.succ_eq_add_one, Nat.zero_add, Nat.reduceAdd, cOp_is, cDo_is, cCond_is, cSeq_is, cBlock_is, cNorm_is, cRet_is, cExit_is, opX_ok, doX_ok, condX_true, condX_false, seqX_norm, seqX_exit, seqX_ret, blockX_norm, blockX_ret, blockX_exit, oMove_is, kV_is, slot_set, Nat.reduceLT, Nat.reduceEqDiff, if_true, if_false, reduceIte, cG_is, guardX_tt, guardX_tf, guardX_ft, guardX_ff, guardX_none, skipC_is, oPick_is, pickR_true, pickR_false, oLoad1_is, loadR_is, ld5, ld1, ld4, oCall_is, vals_cons, vals_nil, k1, oExtract_is, extractR_0, extractR_1, extractR_2, oCmp_is, cmpR_is, c0, oConv_is, cm, c1, oStore_is, s1, ld6, st, wv, leave_ret, finish_1]
      · rw [hu] at hno; cases hno
    · have hnx : nxV l most false p = (0, true, p) := by
        cases hu : uget 0 0 (l.drop p) with
        | none => rw [nxV_none hu]
        | some vj =>
          obtain ⟨v, j⟩ := vj
          rw [nxV_some hu, if_neg (fun hv => hgood ⟨v, j, hu, hv⟩)]
      rw [hnx]
      obtain ⟨g, s1, s2, s3, s4, s5⟩ := fin true
      have ld6 : load1 ⟨b5, 0, none⟩ g = .ok (.bool true) g := s4.load1 (off := 0) (by simp)
      refine ⟨g, ?_, s2, s3, s5 b4 _ _ h45 r4, s4, fun b el L _ h5 r => s5 b el L h5 r⟩
      rcases k2 with ⟨v', j', hu', rfl, rfl, rfl⟩ | ⟨hno, hC⟩
      · have hv : ¬ v' ≤ most := fun hv => hgood ⟨v', j', hu', hv⟩
        have c1 : iGt (v' : Int) (most : Int) = true := by rw [iGt_is]; simp; omega
        have c0 : iNe 0 0 = false := rfl
        rw [call37 rfl]
        unfold d37
        unfold ptr at s1 ⊢
        simp only [setArgs_cons, setArgs_nil, Nat.succ_eq_add_one, Nat.zero_add, Nat.reduceAdd, cOp_is, cDo_is, cCond_is, cSeq_is, cBlock_is, cNorm_is, cRet_is, cExit_is, opX_ok, doX_ok, condX_true, condX_false, seqX_norm, seqX_exit, seqX_ret, blockX_norm, blockX_ret, blockX_exit, oMove_is, kV_is, slot_set, Nat.reduceLT, Nat.reduceEqDiff, if_true, if_false, reduceIte, cG_is, guardX_tt, guardX_tf, guardX_ft, guardX_ff, guardX_none, skipC_is, oPick_is, pickR_true, pickR_false, oLoad1_is, loadR_is, ld5, ld1, ld4, oCall_is, vals_cons, vals_nil, k1, oExtract_is, extractR_0, extractR_1, extractR_2, oCmp_is, cmpR_is, c0, oConv_is, cm, c1, oStore_is, s1, ld6, leave_ret, finish_1]; rfl
      · have c0 : iNe C 0 = true := by rw [iNe_is]; simpa using hC
        rw [call37 rfl]
        unfold d37
        unfold ptr at s1 ⊢
        simp only [setArgs_cons, setArgs_nil, Nat.succ_eq_add_one, Nat.zero_add, Nat.reduceAdd, cOp_is, cDo_is, cCond_is, cSeq_is, cBlock_is, cNorm_is, cRet_is, cExit_is, opX_ok, doX_ok, condX_true, condX_false, seqX_norm, seqX_exit, seqX_ret, blockX_norm, blockX_ret, blockX_exit, oMove_is, kV_is, slot_set, Nat.reduceLT, Nat.reduceEqDiff, if_true, if_false, reduceIte, cG_is, guardX_tt, guardX_tf, guardX_ft, guardX_ff, guardX_none, skipC_is, oPick_is, pickR_true, pickR_false, oLoad1_is, loadR_is, ld5, ld1, ld4, oCall_is, vals_cons, vals_nil, k1, oExtract_is, extractR_0, extractR_1, extractR_2, oCmp_is, cmpR_is, c0, oStore_is, s1, ld6, leave_ret, finish_1]; rfl

/-! ### Read -/
noncomputable def qB : C := (cOp (slotT 18) (oCmp iLt .i64 (slotG 17) (slotG 16))
(cCond (slotG 18)
(cSeq (cBlock 1 (cOp (slotT 21) (oApply (slotG 6) [(kV (.int .i64 1099511627776))])
(cOp (slotT 22) (oAdd .i64 (topOf .i64) (slotG 8) (slotG 21))
(cOp (slotT 8) (oMove (slotG 22))
(cOp (slotT 23) (oLoad1 (slotG 5))
(cG (slotG 23) false (slotT 25) (oMove (slotG 8))
(cG (slotG 23) false (slotT 26) (oCmp iGt .i64 (slotG 25) (kV (.int .i64 1099511627776)))
(cOp (slotT 27) (oPick (slotG 23) (kV (.bool true)) (slotG 26))
(cCond (slotG 27)
(cOp (slotT 28) (oBuild ty31.zero [])
(cDo (oStore 3 (slotG 2) (slotG 28))
(cOp (slotT 3) (oMove (kV (.int .i64 167)))
cRet)))
(cOp (slotT 29) (oFieldAddr 2 (slotG 7))
(cOp (slotT 30) (oLoad1 (slotG 29))
(cOp (slotT 32) (oBuildSlice 1 (repL ty3.zero 1) [(0, 1, (slotG 8))])
(cOp (slotT 33) (oAppend 1 8 3 (slotG 30) (slotG 32))
(cOp (slotT 34) (oFieldAddr 2 (slotG 7))
(cDo (oStore 1 (slotG 34) (slotG 33))
cNorm)))))))))))))))
(cOp (slotT 35) (oAdd .i64 (topOf .i64) (slotG 17) (kV (.int .i64 1)))
(cOp (slotT 17) (oMove (slotG 35))
cNorm)))
(cExit 0)))
noncomputable def qE : C := (cOp (slotT 36) (oLoad1 (slotG 5))
(cG (slotG 36) false (slotT 38) (oLoad1 (slotG 4))
(cG (slotG 36) false (slotT 39) (oLoad1 (slotG 1))
(cG (slotG 36) false (slotT 40) (oLenS (slotG 39))
(cG (slotG 36) false (slotT 41) (oCmp iNe .i64 (slotG 38) (slotG 40))
(cOp (slotT 42) (oPick (slotG 36) (kV (.bool true)) (slotG 41))
(cG (slotG 42) false (slotT 44) (oLoadN 3 (slotG 7))
(cG (slotG 42) false (slotT 45) (oCall 9 [(slotG 44)])
(cG (slotG 42) false (slotT 46) (oNot (slotG 45))
(cOp (slotT 47) (oPick (slotG 42) (kV (.bool true)) (slotG 46))
(cCond (slotG 47)
(cOp (slotT 48) (oBuild ty31.zero [])
(cDo (oStore 3 (slotG 2) (slotG 48))
(cOp (slotT 3) (oMove (kV (.int .i64 167)))
cRet)))
(cOp (slotT 49) (oLoadN 3 (slotG 7))
(cDo (oStore 3 (slotG 2) (slotG 49))
(cOp (slotT 3) (oMove (kV (.int .i64 0)))
cRet))))))))))))))
theorem zero31 : ty31.zero = [.int .i64 0, .int .i64 0, .slice none 0 0] := by kernel_rfl
theorem zt31_is : setAll .mt 0 [.int .i64 0, .int .i64 0, .slice none 0 0] = some zt31 := by kernel_rfl
theorem zt3_is : setAll .mt 0 [.int .i64 0] = some zt3 := by kernel_rfl
theorem zt4_is : setAll .mt 0 [.bool false] = some zt4 := by kernel_rfl
theorem known_int {k : IntKind} {n : Int} : known (.int k n) = true := rfl
theorem over_m0 {x y z u : Value} : over [x, y, z] 0 [u] = [u, y, z] := rfl
theorem over_m1 {x y z u : Value} : over [x, y, z] 1 [u] = [x, u, z] := rfl
theorem over_m2 {x y z u : Value} : over [x, y, z] 2 [u] = [x, y, u] := rfl
theorem over_m3 {x y z a b c : Value} : over [x, y, z] 0 [a, b, c] = [a, b, c] := rfl
theorem Hp.Own.apart {h : Hp} {k en b : Nat} {v : Value} {xs : List Value} (o : h.Own k en v xs) (hb : b < k) : ¬ blkV v b := by
  rcases o with ⟨rfl, _⟩ | ⟨c, rfl, _, h3, _⟩
  · exact blkV_nil
  · exact blkV_at (by omega)
theorem Hp.Own.cells {h : Hp} {k en : Nat} {v : Value} {xs : List Value} (o : h.Own k en v xs) : cellsOf v = [v] ∧ oneCell v = true := by
  rcases o with ⟨rfl, _⟩ | ⟨c, rfl, _⟩ <;> exact ⟨rfl, rfl⟩
noncomputable def finR (r : R) (w : Value) (h : Hp) : R := match r with
  | .ok v _ => .ok (.tuple ⟨[v, w]⟩) h
  | .no => .no
theorem finish_cN {e : Env} {h : Hp} {g g' : O} {n : Nat} : finish [.cN g n, .t g'] e h = finR (loadsR n (g e) h) (g' e) h := by
  show (match (match adrV (g e) with | .ok a => loadN n a h | .no => .no) with | .ok v _ => forceV v fun v => (match R.ok (g' e) h with | .ok v' _ => forceV v' fun v' => finish2 h [v, v'] | .no => .no) | .no => .no) = _
  unfold finR loadsR
  cases adrV (g e) with
  | no => rfl
  | ok a =>
    simp only
    cases loadN n a h with
    | no => rfl
    | ok v h' => simp only [forceV_is]; rfl
theorem finR_ok {v w : Value} {h h' : Hp} : finR (.ok v h') w h = .ok (.tuple ⟨[v, w]⟩) h := rfl
/-- the memory of a reading: where its cells lie -/
structure RdM (h0 h : Hp) (b1 b2 b4 b5 b7 k : Nat) (u : Value) (p : Nat) (bad : Bool) (f t : Int) (w : Value) (zs : List Int) : Prop where
  ext : h0.Ext h
  kn : k ≤ h.next
  r1 : h.Row b1 0 [u]
  r2 : h.Row b2 0 [.int .i64 0, .int .i64 0, .slice none 0 0]
  r4 : h.Row b4 0 [.int .i64 (p : Int)]
  r5 : h.Row b5 0 [.bool bad]
  r7 : h.Row b7 0 [.int .i64 f, .int .i64 t, w]
  own : h.Own k 3 w (ints .i64 zs)
structure Nums (h0 : Hp) (b1 b2 b4 b5 b7 k : Nat) : Prop where
  l1 : h0.next ≤ b1
  l12 : b1 < b2
  l24 : b2 < b4
  l45 : b4 < b5
  l57 : b5 < b7
  l7k : b7 < k
def slotsR (e : Env) (b1 b2 b4 b5 b7 m : Nat) : Prop := slotG 1 e = ptr b1 ∧ slotG 2 e = ptr b2 ∧ slotG 4 e = ptr b4 ∧ slotG 5 e = ptr b5 ∧ slotG 7 e = ptr b7 ∧ slotG 6 e = .func (.func 37) ⟨[]⟩ ⟨[ptr b5, ptr b1, ptr b4]⟩ ∧ slotG 16 e = .int .i64 (m : Int)
theorem read_loop {n : Nat} {h0 h : Hp} (W0 : h0.Wf) {u : Value} {l : List Nat} (V : h0.Vals u (l.map bv)) (hb : ∀ x ∈ l, x < 256) (hl : l.length ≤ 1000000) {b1 b2 b4 b5 b7 k p3 m : Nat} {b3 : Bool} {f t : Int} (N : Nums h0 b1 b2 b4 b5 b7 k) (hm : m ≤ 10000) (hbm : b3 = true → m = 0) (hp : p3 ≤ l.length)
    (D : RdM h0 h b1 b2 b4 b5 b7 k u p3 b3 f t (.slice none 0 0) []) {e : Env} (S : slotsR e b1 b2 b4 b5 b7 m) (s8 : slotG 8 e = .int .i64 0) (s17 : slotG 17 e = .int .i64 0) :
    (∃ e' h' p w zs, cLoop qB (call bodies (n + 2)) e h = .exit 0 e' h' ∧ RdM h0 h' b1 b2 b4 b5 b7 k u p b3 f t w zs ∧ zs.length ≤ 10000 ∧ slotsR e' b1 b2 b4 b5 b7 m ∧ (b3 = false → readN m 0 (l.drop p3) = some (zs, l.drop p) ∧ p ≤ l.length)) ∨
    (∃ e' h', cLoop qB (call bodies (n + 2)) e h = .ret e' h' ∧ h0.Ext h' ∧ slotG 2 e' = ptr b2 ∧ slotG 3 e' = .int .i64 167 ∧ h'.Row b2 0 [.int .i64 0, .int .i64 0, .slice none 0 0] ∧ b3 = false ∧ readN m 0 (l.drop p3) = none) := by
  obtain ⟨n1, n2, n3, n4, n5, n6⟩ := N
  refine loop_run (I := fun i e' h' => ∃ p w zs last, RdM h0 h' b1 b2 b4 b5 b7 k u p b3 f t w zs ∧ zs.length = i ∧ i ≤ m ∧ slotsR e' b1 b2 b4 b5 b7 m ∧ slotG 8 e' = .int .i64 last ∧ 0 ≤ last ∧ last ≤ 1099511627776 ∧ slotG 17 e' = .int .i64 (i : Int) ∧ p ≤ l.length ∧
      (b3 = false → readN m 0 (l.drop p3) = (match readN (m - i) last (l.drop p) with | some (xs, q) => some (zs ++ xs, q) | none => none)))
    (Q := fun x => (∃ e' h' p w zs, x = .exit 0 e' h' ∧ RdM h0 h' b1 b2 b4 b5 b7 k u p b3 f t w zs ∧ zs.length ≤ 10000 ∧ slotsR e' b1 b2 b4 b5 b7 m ∧ (b3 = false → readN m 0 (l.drop p3) = some (zs, l.drop p) ∧ p ≤ l.length)) ∨
      (∃ e' h', x = .ret e' h' ∧ h0.Ext h' ∧ slotG 2 e' = ptr b2 ∧ slotG 3 e' = .int .i64 167 ∧ h'.Row b2 0 [.int .i64 0, .int .i64 0, .slice none 0 0] ∧ b3 = false ∧ readN m 0 (l.drop p3) = none)) m (by omega) (fun i e' h' ⟨p, w, zs, last, D', hz, hi, S', t8, hla, hlb, t17, hp', hrd⟩ => ?_)
    ⟨p3, _, [], 0, D, rfl, Nat.zero_le _, S, s8, by omega, by omega, s17, hp, fun _ => by
      rw [Nat.sub_zero]
      cases readN m 0 (l.drop p3) with
      | none => rfl
      | some y => rfl⟩
  obtain ⟨S1, S2, S4, S5, S7, S6, S16⟩ := S'
  by_cases hlt : i < m
  · have hb3 : b3 = false := by
      cases b3 with
      | false => rfl
      | true => have := hbm rfl; omega
    subst hb3
    have hrd := hrd rfl
    rw [show m - i = (m - i - 1) + 1 by omega, readN_nx] at hrd
    obtain ⟨g, k1, k2⟩ := next_is (n := n) W0 D'.ext V hb hl D'.r1 D'.r4 D'.r5 (by omega) (by omega) (by omega) (by omega) (by omega) hp' (most := 1099511627776) (Nat.le_refl _)
    obtain ⟨hle1, hle2, _, _⟩ := nxV_le hb (most := 1099511627776) (bad := false) hp'
    generalize nxV l 1099511627776 false p = s at k1 k2 hle1 hle2 hrd
    obtain ⟨v, bd, p'⟩ := s
    simp only at k1 hle1 hle2 hrd
    have k1 : call bodies (n + 2) 37 [.int .i64 1099511627776, ptr b5, ptr b1, ptr b4] h' = .ok (.int .i64 (v : Int)) g := k1
    obtain ⟨x1, nx1, q4, q5, kp⟩ := k2
    have q5 : g.Row b5 0 [.bool bd] := q5
    have q4 : g.Row b4 0 [.int .i64 (p' : Int)] := q4
    have q1 := kp b1 _ _ (by omega) (by omega) D'.r1
    have q2 := kp b2 _ _ (by omega) (by omega) D'.r2
    have q7 := kp b7 _ _ (by omega) (by omega) D'.r7
    have qo : g.Own k 3 w (ints .i64 zs) := D'.own.keep fun b el L hbk r => kp b el L (fun hx => (D'.own.apart (b := b4) (by omega)) (hx ▸ hbk)) (fun hx => (D'.own.apart (b := b5) (by omega)) (hx ▸ hbk)) r
    have c1 : iLt (i : Int) (m : Int) = true := by rw [iLt_is]; simp; omega
    have a1 : addR .i64 (.int .i64 last) (.int .i64 (v : Int)) g = .ok (.int .i64 (last + (v : Int))) g := by rw [addR_is, wrap_int (by omega) (by omega)]
    have ld5 : load1 ⟨b5, 0, none⟩ g = .ok (.bool bd) g := q5.load1 (off := 0) (by simp)
    by_cases hfail : bd = true ∨ 1099511627776 < last + (v : Int)
    · right
      rw [if_pos hfail] at hrd
      have h256 : 256 ≤ b2 := by have := W0.big; omega
      have st := q2.storeR (n := 3) (off := 0) x1.wf h256 (v := .agg ⟨[.int .i64 0, .int .i64 0, .slice none 0 0]⟩) rfl (by simp [cells_agg]) rfl
      rw [cells_agg] at st
      have w2 := q2.wr_self x1.wf (off := 0) (vs := [.int .i64 0, .int .i64 0, .slice none 0 0]) (by simp)
      have x2 := q2.wr_ext x1 (by omega) (off := 0) (vs := [.int .i64 0, .int .i64 0, .slice none 0 0]) (by simp)
      have hrun : ∃ e2, qB (call bodies (n + 2)) e' h' = .ret e2 (g.wr b2 0 [.int .i64 0, .int .i64 0, .slice none 0 0]) ∧ slotG 2 e2 = ptr b2 ∧ slotG 3 e2 = .int .i64 167 := by
        unfold qB
        unfold ptr at S1 S2 S4 S5 S7 S6 k1 ⊢
        cases bd with
        | true =>
          simp only [cOp_is, cDo_is, cCond_is, cSeq_is, cBlock_is, cNorm_is, cRet_is, cExit_is, opX_ok, doX_ok, condX_true, condX_false, seqX_norm, seqX_exit, seqX_ret, blockX_norm, blockX_ret, blockX_exit, oMove_is, kV_is, slot_set, Nat.reduceLT, Nat.reduceEqDiff, if_true, if_false, reduceIte, cG_is, guardX_tt, guardX_tf, guardX_ft, guardX_ff, guardX_none, skipC_is, oPick_is, pickR_true, pickR_false, oCmp_is, cmpR_is, t17, S16, c1, oApply_is, S6, applyR_is, vals_cons, vals_nil, List.nil_append, List.cons_append, k1, oAdd_is, t8, a1, oLoad1_is, S5, loadR_is, ld5, oBuild_is, zero31, fillL_nil, oStore_is, S2, st]
          exact ⟨_, rfl, by simp only [slot_set, Nat.reduceLT, Nat.reduceEqDiff, if_true, if_false, reduceIte]; exact S2, by simp only [slot_set, Nat.reduceLT, Nat.reduceEqDiff, if_true, if_false, reduceIte]⟩
        | false =>
          have c2 : iGt (last + (v : Int)) 1099511627776 = true := by
            rw [iGt_is]
            rcases hfail with hfail | hfail
            · cases hfail
            · simpa using hfail
          simp only [cOp_is, cDo_is, cCond_is, cSeq_is, cBlock_is, cNorm_is, cRet_is, cExit_is, opX_ok, doX_ok, condX_true, condX_false, seqX_norm, seqX_exit, seqX_ret, blockX_norm, blockX_ret, blockX_exit, oMove_is, kV_is, slot_set, Nat.reduceLT, Nat.reduceEqDiff, if_true, if_false, reduceIte, cG_is, guardX_tt, guardX_tf, guardX_ft, guardX_ff, guardX_none, skipC_is, oPick_is, pickR_true, pickR_false, oCmp_is, cmpR_is, t17, S16, c1, oApply_is, S6, applyR_is, vals_cons, vals_nil, List.nil_append, List.cons_append, k1, oAdd_is, t8, a1, oLoad1_is, S5, loadR_is, ld5, c2, oBuild_is, zero31, fillL_nil, oStore_is, S2, st]
          exact ⟨_, rfl, by simp only [slot_set, Nat.reduceLT, Nat.reduceEqDiff, if_true, if_false, reduceIte]; exact S2, by simp only [slot_set, Nat.reduceLT, Nat.reduceEqDiff, if_true, if_false, reduceIte]⟩
      obtain ⟨e2, r1, r2, r3⟩ := hrun
      rw [r1]
      exact ⟨rfl, .inr ⟨e2, _, rfl, x2, r2, r3, w2, rfl, hrd⟩⟩
    · left
      rw [if_neg hfail] at hrd
      have hbd : bd = false := by
        cases bd with
        | false => rfl
        | true => exact absurd (.inl rfl) hfail
      subst hbd
      have c2 : iGt (last + (v : Int)) 1099511627776 = false := by
        rw [iGt_is, decide_eq_false]
        exact fun h => hfail (.inr h)
      have ld7 : load1 ⟨b7, 2, none⟩ g = .ok w g := q7.load1 (off := 2) (by simp)
      have hkn : k ≤ g.next := by rw [nx1]; exact D'.kn
      have os : ∀ e, slotG 8 e = .int .i64 (last + (v : Int)) → oBuildSlice 1 (repL ty3.zero 1) [(0, 1, slotG 8)] (call bodies (n + 2)) e g = .ok (.slice (some ⟨g.next, 0, none⟩) 1 1) (g.pushRow 0 [.int .i64 (last + (v : Int))]) := fun e he => by rw [zero3]; exact one_slice x1.wf he rfl rfl
      obtain ⟨h2, v2, y1, y2, y3, y4, y5⟩ := own_one (eb := 8) (n := last + (v : Int)) (kd := .i64) x1 (by omega) hkn qo (by rw [ints_len]; omega)
      have y3 : h2.Own k 3 v2 (ints .i64 (zs ++ [last + (v : Int)])) := by
        unfold ints; rw [List.map_append]; exact y3
      obtain ⟨z7, a7⟩ := y5 b7 _ _ (qo.apart (by omega)) q7
      obtain ⟨z1, _⟩ := y5 b1 _ _ (qo.apart (by omega)) q1
      obtain ⟨z2, _⟩ := y5 b2 _ _ (qo.apart (by omega)) q2
      obtain ⟨z4, _⟩ := y5 b4 _ _ (qo.apart (by omega)) q4
      obtain ⟨z5, _⟩ := y5 b5 _ _ (qo.apart (by omega)) q5
      obtain ⟨hc1, hc2⟩ := y3.cells
      have h256 : 256 ≤ b7 := by have := W0.big; omega
      have st := z7.storeR (n := 1) (off := 2) y2.wf h256 (v := v2) (by rw [hc1]; rfl) (by rw [hc1]; simp) (by rw [hc1]; show (bif oneCell v2 then true else false) = true; rw [hc2]; rfl)
      rw [hc1] at st
      have w7 := z7.wr_self y2.wf (off := 2) (vs := [v2]) (by simp)
      have x3 := z7.wr_ext y2 (by omega) (off := 2) (vs := [v2]) (by simp)
      have nx3 := z7.wr_next (off := 2) (vs := [v2]) (by simp)
      have ot : ∀ b el L, b ≠ b7 → h2.Row b el L → (h2.wr b7 2 [v2]).Row b el L := fun b el L hne r => z7.wr_other y2.wf (off := 2) (vs := [v2]) (by simp) r hne
      have a2 : addR .i64 (.int .i64 (i : Int)) (.int .i64 1) (h2.wr b7 2 [v2]) = .ok (.int .i64 ((i + 1 : Nat) : Int)) (h2.wr b7 2 [v2]) := by
        have : (i : Int) + 1 = ((i + 1 : Nat) : Int) := by omega
        rw [addR_is, this, wrap_nat (by omega)]
      have hrun : ∃ e2, qB (call bodies (n + 2)) e' h' = .norm e2 (h2.wr b7 2 [v2]) ∧ slotsR e2 b1 b2 b4 b5 b7 m ∧ slotG 8 e2 = .int .i64 (last + (v : Int)) ∧ slotG 17 e2 = .int .i64 ((i + 1 : Nat) : Int) := by
        unfold qB slotsR
        unfold ptr at S1 S2 S4 S5 S7 S6 k1 ⊢
        simp only [cOp_is, cDo_is, cCond_is, cSeq_is, cBlock_is, cNorm_is, cRet_is, cExit_is, opX_ok, doX_ok, condX_true, condX_false, seqX_norm, seqX_exit, seqX_ret, blockX_norm, blockX_ret, blockX_exit, oMove_is, kV_is, slot_set, Nat.reduceLT, Nat.reduceEqDiff, if_true, if_false, reduceIte, cG_is, guardX_tt, guardX_tf, guardX_ft, guardX_ff, guardX_none, skipC_is, oPick_is, pickR_true, pickR_false, oCmp_is, cmpR_is, t17, S16, c1, oApply_is, S6, applyR_is, vals_cons, vals_nil, List.nil_append, List.cons_append, k1, oAdd_is, t8, a1, oLoad1_is, S5, loadR_is, ld5, c2, oFieldAddr_is', S7, fieldAR_is, Nat.zero_add, ld7, os, oAppend_is, y1, oStore_is, st, a2]
        exact ⟨_, rfl, ⟨by simp only [slot_set, Nat.reduceLT, Nat.reduceEqDiff, if_true, if_false, reduceIte]; exact S1, by simp only [slot_set, Nat.reduceLT, Nat.reduceEqDiff, if_true, if_false, reduceIte]; exact S2, by simp only [slot_set, Nat.reduceLT, Nat.reduceEqDiff, if_true, if_false, reduceIte]; exact S4, by simp only [slot_set, Nat.reduceLT, Nat.reduceEqDiff, if_true, if_false, reduceIte]; exact S5, by simp only [slot_set, Nat.reduceLT, Nat.reduceEqDiff, if_true, if_false, reduceIte]; exact S7, by simp only [slot_set, Nat.reduceLT, Nat.reduceEqDiff, if_true, if_false, reduceIte]; exact S6, by simp only [slot_set, Nat.reduceLT, Nat.reduceEqDiff, if_true, if_false, reduceIte]; exact S16⟩, by simp only [slot_set, Nat.reduceLT, Nat.reduceEqDiff, if_true, if_false, reduceIte], by simp only [slot_set, Nat.reduceLT, Nat.reduceEqDiff, if_true, if_false, reduceIte]⟩
      obtain ⟨e2, r1, r2, r3, r4⟩ := hrun
      refine ⟨hlt, e2, _, r1, p', v2, zs ++ [last + (v : Int)], last + (v : Int), ⟨x3, by rw [nx3]; omega, ot b1 _ _ (by omega) z1, ot b2 _ _ (by omega) z2, ot b4 _ _ (by omega) z4, ot b5 _ _ (by omega) z5, w7, y3.keep fun b el L hbk r => ot b el L (fun hx => (y3.apart (b := b7) (by omega)) (hx ▸ hbk)) r⟩, ?_, hlt, r2, r3, by omega, ?_, r4, hle1, fun _ => ?_⟩
      · rw [List.length_append, List.length_singleton, hz]
      · have : ¬ 1099511627776 < last + (v : Int) := fun h => hfail (.inr h)
        omega
      · rw [hrd, show m - i - 1 = m - (i + 1) by omega]
        cases readN (m - (i + 1)) (last + (v : Int)) (l.drop p') with
        | none => rfl
        | some y =>
          obtain ⟨ys, q⟩ := y
          show some (zs ++ (last + (v : Int)) :: ys, q) = some (zs ++ [last + (v : Int)] ++ ys, q)
          rw [List.append_assoc]; rfl
  · right
    have c1 : iLt (i : Int) (m : Int) = false := by rw [iLt_is]; simp; omega
    have hrun : ∃ e2, qB (call bodies (n + 2)) e' h' = .exit 0 e2 h' ∧ slotsR e2 b1 b2 b4 b5 b7 m := by
      unfold qB slotsR
      simp only [cOp_is, cDo_is, cCond_is, cSeq_is, cBlock_is, cNorm_is, cRet_is, cExit_is, opX_ok, doX_ok, condX_true, condX_false, seqX_norm, seqX_exit, seqX_ret, blockX_norm, blockX_ret, blockX_exit, oMove_is, kV_is, slot_set, Nat.reduceLT, Nat.reduceEqDiff, if_true, if_false, reduceIte, oCmp_is, cmpR_is, t17, S16, c1]
      exact ⟨_, rfl, by simp only [slot_set, Nat.reduceLT, Nat.reduceEqDiff, if_true, if_false, reduceIte]; exact S1, by simp only [slot_set, Nat.reduceLT, Nat.reduceEqDiff, if_true, if_false, reduceIte]; exact S2, by simp only [slot_set, Nat.reduceLT, Nat.reduceEqDiff, if_true, if_false, reduceIte]; exact S4, by simp only [slot_set, Nat.reduceLT, Nat.reduceEqDiff, if_true, if_false, reduceIte]; exact S5, by simp only [slot_set, Nat.reduceLT, Nat.reduceEqDiff, if_true, if_false, reduceIte]; exact S7, by simp only [slot_set, Nat.reduceLT, Nat.reduceEqDiff, if_true, if_false, reduceIte]; exact S6, by simp only [slot_set, Nat.reduceLT, Nat.reduceEqDiff, if_true, if_false, reduceIte]; exact S16⟩
    obtain ⟨e2, r1, r2⟩ := hrun
    rw [r1]
    refine ⟨rfl, .inl ⟨e2, h', p, w, zs, rfl, D', by omega, r2, fun h3 => ⟨?_, hp'⟩⟩⟩
    have := hrd h3
    rw [show m - i = 0 by omega] at this
    rw [this]
    show some (zs ++ [], l.drop p) = _
    rw [List.append_nil]
noncomputable def qS : C := (cSeq (cBlock 0 (cLoop (cOp (slotT 18) (oCmp iLt .i64 (slotG 17) (slotG 16))
(cCond (slotG 18)
(cSeq (cBlock 1 (cOp (slotT 21) (oApply (slotG 6) [(kV (.int .i64 1099511627776))])
(cOp (slotT 22) (oAdd .i64 (topOf .i64) (slotG 8) (slotG 21))
(cOp (slotT 8) (oMove (slotG 22))
(cOp (slotT 23) (oLoad1 (slotG 5))
(cG (slotG 23) false (slotT 25) (oMove (slotG 8))
(cG (slotG 23) false (slotT 26) (oCmp iGt .i64 (slotG 25) (kV (.int .i64 1099511627776)))
(cOp (slotT 27) (oPick (slotG 23) (kV (.bool true)) (slotG 26))
(cCond (slotG 27)
(cOp (slotT 28) (oBuild ty31.zero [])
(cDo (oStore 3 (slotG 2) (slotG 28))
(cOp (slotT 3) (oMove (kV (.int .i64 167)))
cRet)))
(cOp (slotT 29) (oFieldAddr 2 (slotG 7))
(cOp (slotT 30) (oLoad1 (slotG 29))
(cOp (slotT 32) (oBuildSlice 1 (repL ty3.zero 1) [(0, 1, (slotG 8))])
(cOp (slotT 33) (oAppend 1 8 3 (slotG 30) (slotG 32))
(cOp (slotT 34) (oFieldAddr 2 (slotG 7))
(cDo (oStore 1 (slotG 34) (slotG 33))
cNorm)))))))))))))))
(cOp (slotT 35) (oAdd .i64 (topOf .i64) (slotG 17) (kV (.int .i64 1)))
(cOp (slotT 17) (oMove (slotG 35))
cNorm)))
(cExit 0)))))
(cOp (slotT 36) (oLoad1 (slotG 5))
(cG (slotG 36) false (slotT 38) (oLoad1 (slotG 4))
(cG (slotG 36) false (slotT 39) (oLoad1 (slotG 1))
(cG (slotG 36) false (slotT 40) (oLenS (slotG 39))
(cG (slotG 36) false (slotT 41) (oCmp iNe .i64 (slotG 38) (slotG 40))
(cOp (slotT 42) (oPick (slotG 36) (kV (.bool true)) (slotG 41))
(cG (slotG 42) false (slotT 44) (oLoadN 3 (slotG 7))
(cG (slotG 42) false (slotT 45) (oCall 9 [(slotG 44)])
(cG (slotG 42) false (slotT 46) (oNot (slotG 45))
(cOp (slotT 47) (oPick (slotG 42) (kV (.bool true)) (slotG 46))
(cCond (slotG 47)
(cOp (slotT 48) (oBuild ty31.zero [])
(cDo (oStore 3 (slotG 2) (slotG 48))
(cOp (slotT 3) (oMove (kV (.int .i64 167)))
cRet)))
(cOp (slotT 49) (oLoadN 3 (slotG 7))
(cDo (oStore 3 (slotG 2) (slotG 49))
(cOp (slotT 3) (oMove (kV (.int .i64 0)))
cRet)))))))))))))))
theorem qS_is : qS = cSeq (cBlock 0 (cLoop qB)) qE := rfl
noncomputable def d16h : C := (cOp (slotT 1) (oBox (slotG 0))
(cOp (slotT 2) (oAlloc 3 zt31)
(cOp (slotT 3) (oMove (kV (.int .i64 0)))
(cOp (slotT 4) (oAlloc 1 zt3)
(cOp (slotT 5) (oAlloc 1 zt4)
(cDo (oStore 1 (slotG 4) (kV (.int .i64 0)))
(cDo (oStore 1 (slotG 5) (kV (.bool false)))
(cOp (slotT 9) (oFunc (.func 37) [] [(slotG 5), (slotG 1), (slotG 4)])
(cOp (slotT 6) (oMove (slotG 9))
(cOp (slotT 11) (oApply (slotG 6) [(kV (.int .i64 256))])
(cOp (slotT 13) (oApply (slotG 6) [(kV (.int .i64 256))])
(cOp (slotT 14) (oBuild ty31.zero [(0, 1, (slotG 11)), (1, 1, (slotG 13))])
(cOp (slotT 7) (oAlloc 3 zt31)
(cDo (oStore 3 (slotG 7) (slotG 14))
(cOp (slotT 8) (oMove (kV (.int .i64 0)))
(cOp (slotT 16) (oApply (slotG 6) [(kV (.int .i64 10000))])
(cOp (slotT 17) (oMove (kV (.int .i64 0)))
qS)))))))))))))))))
theorem d16_is : d16 = d16h := rfl
/-- what Read gives where there is no move -/
def noMv : Value := .tuple ⟨[.agg ⟨[.int .i64 0, .int .i64 0, .slice none 0 0]⟩, .int .i64 167]⟩
theorem read_is {n : Nat} {h : Hp} (W : h.Wf) {u : Value} {l : List Nat} (V : h.Vals u (l.map bv)) (hb : ∀ x ∈ l, x < 256) (hl : l.length ≤ 1000000) (hk : known u = true) (hc : cellsOf u = [u]) :
    (∃ f t zs h' w, readL l = some (f, t, zs) ∧ call bodies (n + 4) 16 [u] h = .ok (.tuple ⟨[mvV f t w, .int .i64 0]⟩) h' ∧ h.Ext h' ∧ h'.Vals w (ints .i64 zs)) ∨
    (readL l = none ∧ ∃ h', call bodies (n + 4) 16 [u] h = .ok noMv h' ∧ h.Ext h') := by
  -- the cells
  have x1 := (Hp.Ext.refl W).pushRow 0 [u]
  have R1 := Hp.Row.new W 0 [u]
  have n1 : (h.pushRow 0 [u]).next = h.next + 1 := rfl
  have f1 : ∀ e : Env, slotG 0 e = u → oBox (slotG 0) (call bodies (n + 3)) e h = .ok (.pointer (some ⟨h.next, 0, none⟩)) (h.pushRow 0 [u]) := fun e he => by rw [oBox_is, he, boxR_is W hk, hc]
  generalize h.pushRow 0 [u] = h1 at x1 R1 n1 f1
  have x2 := x1.push (.cells zt31 3 0)
  have y2 := (Hp.Ext.refl x1.wf).push (.cells zt31 3 0)
  have R2 : (h1.push (.cells zt31 3 0)).Row h1.next 0 [.int .i64 0, .int .i64 0, .slice none 0 0] := Hp.Row.alloc x1.wf zt31_is rfl
  have f2 := fun (e : Env) => oAlloc_is (F := call bodies (n + 3)) (e := e) (n := 3) (t := zt31) x1.wf
  have n2 : (h1.push (.cells zt31 3 0)).next = h1.next + 1 := rfl
  generalize h1.push (.cells zt31 3 0) = h2 at x2 y2 R2 f2 n2
  have x3 := x2.push (.cells zt3 1 0)
  have y3 := (Hp.Ext.refl x2.wf).push (.cells zt3 1 0)
  have R4 : (h2.push (.cells zt3 1 0)).Row h2.next 0 [.int .i64 0] := Hp.Row.alloc x2.wf zt3_is rfl
  have f4 := fun (e : Env) => oAlloc_is (F := call bodies (n + 3)) (e := e) (n := 1) (t := zt3) x2.wf
  have n3 : (h2.push (.cells zt3 1 0)).next = h2.next + 1 := rfl
  generalize h2.push (.cells zt3 1 0) = h3 at x3 y3 R4 f4 n3
  have x4 := x3.push (.cells zt4 1 0)
  have y4 := (Hp.Ext.refl x3.wf).push (.cells zt4 1 0)
  have R5 : (h3.push (.cells zt4 1 0)).Row h3.next 0 [.bool false] := Hp.Row.alloc x3.wf zt4_is rfl
  have f5 := fun (e : Env) => oAlloc_is (F := call bodies (n + 3)) (e := e) (n := 1) (t := zt4) x3.wf
  have n4 : (h3.push (.cells zt4 1 0)).next = h3.next + 1 := rfl
  have R4 := R4.ext x3.wf y4
  have R1 := ((R1.ext x1.wf y2).ext x2.wf y3).ext x3.wf y4
  have R2 := (R2.ext x2.wf y3).ext x3.wf y4
  generalize h3.push (.cells zt4 1 0) = h4 at x4 y4 R5 f5 n4 R4 R1 R2
  have big := W.big
  have st4 := R4.storeR (n := 1) (off := 0) x4.wf (by omega) (v := .int .i64 0) rfl (by simp [cellsOf]) rfl
  have x5 := R4.wr_ext x4 (by omega) (off := 0) (vs := cellsOf (.int .i64 0)) (by simp [cellsOf])
  have n5 := R4.wr_next (off := 0) (vs := cellsOf (.int .i64 0)) (by simp [cellsOf])
  have o5 : ∀ b el L, b ≠ h2.next → h4.Row b el L → (h4.wr h2.next 0 (cellsOf (.int .i64 0))).Row b el L := fun b el L hne r => R4.wr_other x4.wf (by simp [cellsOf]) r hne
  have Q4 := R4.wr_self x4.wf (off := 0) (vs := cellsOf (.int .i64 0)) (by simp [cellsOf])
  have Q1 := o5 _ _ _ (by omega) R1
  have Q2 := o5 _ _ _ (by omega) R2
  have Q5 := o5 _ _ _ (by omega) R5
  generalize h4.wr h2.next 0 (cellsOf (.int .i64 0)) = h5 at st4 x5 n5 Q4 Q1 Q2 Q5
  have Q4 : h5.Row h2.next 0 [.int .i64 ((0 : Nat) : Int)] := Q4
  have st5 := Q5.storeR (n := 1) (off := 0) x5.wf (by omega) (v := .bool false) rfl (by simp [cellsOf]) rfl
  have x6 := Q5.wr_ext x5 (by omega) (off := 0) (vs := cellsOf (.bool false)) (by simp [cellsOf])
  have n6 := Q5.wr_next (off := 0) (vs := cellsOf (.bool false)) (by simp [cellsOf])
  have o6 : ∀ b el L, b ≠ h3.next → h5.Row b el L → (h5.wr h3.next 0 (cellsOf (.bool false))).Row b el L := fun b el L hne r => Q5.wr_other x5.wf (by simp [cellsOf]) r hne
  have P5 := Q5.wr_self x5.wf (off := 0) (vs := cellsOf (.bool false)) (by simp [cellsOf])
  have P1 := o6 _ _ _ (by omega) Q1
  have P2 := o6 _ _ _ (by omega) Q2
  have P4 := o6 _ _ _ (by omega) Q4
  generalize h5.wr h3.next 0 (cellsOf (.bool false)) = h6 at st5 x6 n6 P5 P1 P2 P4
  have P5 : h6.Row h3.next 0 [.bool false] := P5
  -- three numbers
  obtain ⟨g1, k1, A1⟩ := next_is (n := n + 1) W x6 V hb hl P1 P4 P5 (by omega) (by omega) (by omega) (by omega) (by omega) (Nat.zero_le _) (most := 256) (by omega)
  have e1 := nxV_le hb (most := 256) (bad := false) (Nat.zero_le l.length)
  generalize hs1 : nxV l 256 false 0 = s1 at k1 A1 e1
  have P1 := A1.keep _ _ _ (by omega) (by omega) P1
  have P2 := A1.keep _ _ _ (by omega) (by omega) P2
  obtain ⟨g2, k2, A2⟩ := next_is (n := n + 1) W A1.ext V hb hl P1 A1.r4 A1.r5 (by omega) (by omega) (by omega) (by omega) (by omega) e1.1 (most := 256) (by omega)
  have e2 := nxV_le hb (most := 256) (bad := s1.2.1) e1.1
  generalize hs2 : nxV l 256 s1.2.1 s1.2.2 = s2 at k2 A2 e2
  have P1 := A2.keep _ _ _ (by omega) (by omega) P1
  have P2 := A2.keep _ _ _ (by omega) (by omega) P2
  have m1 := A1.next
  have m2 := A2.next
  have x7 := A2.ext.push (.cells zt31 3 0)
  have y7 := (Hp.Ext.refl A2.ext.wf).push (.cells zt31 3 0)
  have R7 : (g2.push (.cells zt31 3 0)).Row g2.next 0 [.int .i64 0, .int .i64 0, .slice none 0 0] := Hp.Row.alloc A2.ext.wf zt31_is rfl
  have f7 := fun (e : Env) => oAlloc_is (F := call bodies (n + 3)) (e := e) (n := 3) (t := zt31) A2.ext.wf
  have n7 : (g2.push (.cells zt31 3 0)).next = g2.next + 1 := rfl
  have P1 := P1.ext A2.ext.wf y7
  have P2 := P2.ext A2.ext.wf y7
  have P4 := A2.r4.ext A2.ext.wf y7
  have P5 := A2.r5.ext A2.ext.wf y7
  generalize g2.push (.cells zt31 3 0) = g3 at x7 y7 R7 f7 n7 P1 P2 P4 P5
  have st7 := R7.storeR (n := 3) (off := 0) x7.wf (by omega) (v := .agg ⟨[.int .i64 (s1.1 : Int), .int .i64 (s2.1 : Int), .slice none 0 0]⟩) rfl (by simp [cells_agg]) rfl
  rw [cells_agg] at st7
  have o8 : ∀ b el L, b ≠ g2.next → g3.Row b el L → (g3.wr g2.next 0 [.int .i64 (s1.1 : Int), .int .i64 (s2.1 : Int), .slice none 0 0]).Row b el L := fun b el L hne r => R7.wr_other x7.wf (by simp) r hne
  have P7 := R7.wr_self x7.wf (off := 0) (vs := [.int .i64 (s1.1 : Int), .int .i64 (s2.1 : Int), .slice none 0 0]) (by simp)
  have x8 := R7.wr_ext x7 (by omega) (off := 0) (vs := [.int .i64 (s1.1 : Int), .int .i64 (s2.1 : Int), .slice none 0 0]) (by simp)
  have n8 := R7.wr_next (off := 0) (vs := [.int .i64 (s1.1 : Int), .int .i64 (s2.1 : Int), .slice none 0 0]) (by simp)
  have P1 := o8 _ _ _ (by omega) P1
  have P2 := o8 _ _ _ (by omega) P2
  have P4 := o8 _ _ _ (by omega) P4
  have P5 := o8 _ _ _ (by omega) P5
  generalize g3.wr g2.next 0 [.int .i64 (s1.1 : Int), .int .i64 (s2.1 : Int), .slice none 0 0] = g4 at st7 P7 x8 n8 P1 P2 P4 P5
  have P7 : g4.Row g2.next 0 [.int .i64 (s1.1 : Int), .int .i64 (s2.1 : Int), .slice none 0 0] := P7
  obtain ⟨g5, k3, A3⟩ := next_is (n := n + 1) W x8 V hb hl P1 P4 P5 (by omega) (by omega) (by omega) (by omega) (by omega) e2.1 (most := 10000) (by omega)
  have e3 := nxV_le hb (most := 10000) (bad := s2.2.1) e2.1
  have hrA := readA_nx l s1 s2 _ hs1.symm hs2.symm rfl
  generalize nxV l 10000 s2.2.1 s2.2.2 = s3 at k3 A3 e3 hrA
  have m3 := A3.next
  have P1 := A3.keep _ _ _ (by omega) (by omega) P1
  have P2 := A3.keep _ _ _ (by omega) (by omega) P2
  have P7 := A3.keep _ _ _ (by omega) (by omega) P7
  have D : RdM h g5 h.next h1.next h2.next h3.next g2.next g5.next u s3.2.2 s3.2.1 (s1.1 : Int) (s2.1 : Int) (.slice none 0 0) [] := ⟨A3.ext, Nat.le_refl _, P1, P2, A3.r4, A3.r5, P7, .inl ⟨rfl, rfl⟩⟩
  have Nm : Nums h h.next h1.next h2.next h3.next g2.next g5.next := ⟨Nat.le_refl _, by omega, by omega, by omega, by omega, by omega⟩
  have pre : ∃ e, d16h (call bodies (n + 3)) (setArgs e0 0 [u]) h = qS (call bodies (n + 3)) e g5 ∧ slotsR e h.next h1.next h2.next h3.next g2.next s3.1 ∧ slotG 8 e = .int .i64 0 ∧ slotG 17 e = .int .i64 0 := by
    unfold d16h slotsR
    unfold ptr at k1 k2 k3 ⊢
    have k1 : call bodies (n + 3) 37 [.int .i64 256, .pointer (some ⟨h3.next, 0, none⟩), .pointer (some ⟨h.next, 0, none⟩), .pointer (some ⟨h2.next, 0, none⟩)] h6 = .ok (.int .i64 (s1.1 : Int)) g1 := k1
    have k2 : call bodies (n + 3) 37 [.int .i64 256, .pointer (some ⟨h3.next, 0, none⟩), .pointer (some ⟨h.next, 0, none⟩), .pointer (some ⟨h2.next, 0, none⟩)] g1 = .ok (.int .i64 (s2.1 : Int)) g2 := k2
    have k3 : call bodies (n + 3) 37 [.int .i64 10000, .pointer (some ⟨h3.next, 0, none⟩), .pointer (some ⟨h.next, 0, none⟩), .pointer (some ⟨h2.next, 0, none⟩)] g4 = .ok (.int .i64 (s3.1 : Int)) g5 := k3
    simp only [setArgs_cons, setArgs_nil, Nat.succ_eq_add_one, Nat.zero_add, Nat.reduceAdd, cOp_is, cDo_is, opX_ok, doX_ok, oMove_is, kV_is, slot_set, Nat.reduceLT, Nat.reduceEqDiff, if_true, if_false, reduceIte, f1, f2, f4, f5, oStore_is, st4, st5, oFunc_is, vals_cons, vals_nil, oApply_is, applyR_is, List.nil_append, List.cons_append, k1, k2, oBuild_is, zero31, fillL_cons, fillL_nil, known_int, cells_int, List.length_cons, List.length_nil, Nat.reduceLeDiff, over_m0, over_m1, f7, st7, k3]
    exact ⟨_, rfl, ⟨by simp only [slot_set, Nat.reduceLT, Nat.reduceEqDiff, if_true, if_false, reduceIte], by simp only [slot_set, Nat.reduceLT, Nat.reduceEqDiff, if_true, if_false, reduceIte], by simp only [slot_set, Nat.reduceLT, Nat.reduceEqDiff, if_true, if_false, reduceIte], by simp only [slot_set, Nat.reduceLT, Nat.reduceEqDiff, if_true, if_false, reduceIte], by simp only [slot_set, Nat.reduceLT, Nat.reduceEqDiff, if_true, if_false, reduceIte], by simp only [slot_set, Nat.reduceLT, Nat.reduceEqDiff, if_true, if_false, reduceIte], by simp only [slot_set, Nat.reduceLT, Nat.reduceEqDiff, if_true, if_false, reduceIte]⟩, by simp only [slot_set, Nat.reduceLT, Nat.reduceEqDiff, if_true, if_false, reduceIte], by simp only [slot_set, Nat.reduceLT, Nat.reduceEqDiff, if_true, if_false, reduceIte]⟩
  obtain ⟨e, p1, S, p8, p17⟩ := pre
  have L := read_loop (n := n + 1) W V hb hl Nm e3.2.1 (fun h3 => e3.2.2.2 h3) e3.1 D S p8 p17
  rcases L with ⟨e', h', p, w, zs, q1, D', hz, S', hrd⟩ | ⟨e', h', q1, q2, q3, q4, q5, q6, q7⟩
  · obtain ⟨S1, S2, S4, S5, S7, S6, S16⟩ := S'
    have ld5 : load1 ⟨h3.next, 0, none⟩ h' = .ok (.bool s3.2.1) h' := D'.r5.load1 (off := 0) (by simp)
    have ld4 : load1 ⟨h2.next, 0, none⟩ h' = .ok (.int .i64 (p : Int)) h' := D'.r4.load1 (off := 0) (by simp)
    have ld1 : load1 ⟨h.next, 0, none⟩ h' = .ok u h' := D'.r1.load1 (off := 0) (by simp)
    have ld7 : loadN 3 ⟨g2.next, 0, none⟩ h' = .ok (mvV (s1.1 : Int) (s2.1 : Int) w) h' := D'.r7.loadN (by simp)
    have V' := V.ext W D'.ext
    have Vl : lenSR u h' = .ok (.int .i64 (l.length : Int)) h' := by have := V'.len; rwa [List.length_map] at this
    -- where it fails
    have bad : ∀ g : Hp, h.Ext g → g.Row h1.next 0 [.int .i64 0, .int .i64 0, .slice none 0 0] → ∃ g', storeR 3 (ptr h1.next) (.agg ⟨[.int .i64 0, .int .i64 0, .slice none 0 0]⟩) g = .ok noRes g' ∧ h.Ext g' ∧ loadN 3 ⟨h1.next, 0, none⟩ g' = .ok (.agg ⟨[.int .i64 0, .int .i64 0, .slice none 0 0]⟩) g' := fun g xg rg => by
      have st := rg.storeR (n := 3) (off := 0) xg.wf (by omega) (v := .agg ⟨[.int .i64 0, .int .i64 0, .slice none 0 0]⟩) rfl (by simp [cells_agg]) rfl
      rw [cells_agg] at st
      have r := rg.wr_self xg.wf (off := 0) (vs := [.int .i64 0, .int .i64 0, .slice none 0 0]) (by simp)
      exact ⟨_, st, rg.wr_ext xg (by omega) (by simp), r.loadN (by simp [over])⟩
    unfold ptr at S1 S2 S4 S5 S7 bad
    cases hb3 : s3.2.1 with
    | true =>
      right
      rw [hb3] at ld5 hrA
      rw [if_pos rfl] at hrA
      obtain ⟨g', c1, c2, c3⟩ := bad h' D'.ext D'.r2
      refine ⟨by unfold readL; rw [hrA], g', ?_, c2⟩
      rw [call16 rfl, d16_is, p1, qS_is]
      simp only [cSeq_is, cBlock_is, q1, blockX_exit, seqX_norm]
      unfold qE noMv
      simp only [cOp_is, cDo_is, cCond_is, cSeq_is, cBlock_is, cNorm_is, cRet_is, cExit_is, opX_ok, doX_ok, condX_true, condX_false, seqX_norm, seqX_exit, seqX_ret, blockX_norm, blockX_ret, blockX_exit, oMove_is, kV_is, slot_set, Nat.reduceLT, Nat.reduceEqDiff, if_true, if_false, reduceIte, cG_is, guardX_tt, guardX_tf, guardX_ft, guardX_ff, guardX_none, skipC_is, oPick_is, pickR_true, pickR_false, oLoad1_is, S5, loadR_is, ld5, oBuild_is, zero31, fillL_nil, oStore_is, S2, c1, leave_ret, finish_cN, oLoadN_is, loadsR_is, c3, finR_ok]
    | false =>
      rw [hb3] at ld5 hrA
      rw [if_neg (by decide)] at hrA
      obtain ⟨r1, r2⟩ := hrd hb3
      rw [r1] at hrA
      simp only at hrA
      by_cases hend : p = l.length
      · have c0 : iNe (p : Int) (l.length : Int) = false := by rw [iNe_is]; simp; omega
        have hdr : l.drop p = [] := List.drop_of_length_le (by omega)
        rw [hdr] at hrA
        have kr := right_is (n := n + 1) D'.ext.wf D'.own.vals (by omega) (f := (s1.1 : Int)) (t := (s2.1 : Int))
        have xr := right_ext D'.ext.wf (f := (s1.1 : Int)) (t := (s2.1 : Int)) (u := w)
        have R2' := D'.r2.ext D'.ext.wf xr
        have R7' := D'.r7.ext D'.ext.wf xr
        have W' := D'.own.vals.ext D'.ext.wf xr
        have ow := D'.own.cells
        have xx := D'.ext.trans xr
        generalize h'.pushRow 0 [.int .i64 (s1.1 : Int), .int .i64 (s2.1 : Int), w] = g6 at kr xr R2' R7' W' xx
        cases hR : rightB (s1.1 : Int) (s2.1 : Int) zs with
        | true =>
          left
          rw [hR] at kr
          have ld7' : loadN 3 ⟨g2.next, 0, none⟩ g6 = .ok (mvV (s1.1 : Int) (s2.1 : Int) w) g6 := R7'.loadN (by simp)
          have st := R2'.storeR (n := 3) (off := 0) xx.wf (by omega) (v := mvV (s1.1 : Int) (s2.1 : Int) w) rfl (by simp [mvV, cells_agg]) (by show (bif oneCell w then true else false) = true; rw [ow.2]; rfl)
          have rs := R2'.wr_self xx.wf (off := 0) (vs := cellsOf (mvV (s1.1 : Int) (s2.1 : Int) w)) (by simp [mvV, cells_agg])
          have xs := R2'.wr_ext xx (by omega) (off := 0) (vs := cellsOf (mvV (s1.1 : Int) (s2.1 : Int) w)) (by simp [mvV, cells_agg])
          have ys : ∀ b el L, b ≠ h1.next → g6.Row b el L → (g6.wr h1.next 0 (cellsOf (mvV (s1.1 : Int) (s2.1 : Int) w))).Row b el L := fun b el L hne r => R2'.wr_other xx.wf (off := 0) (vs := cellsOf (mvV (s1.1 : Int) (s2.1 : Int) w)) (by simp [mvV, cells_agg]) r hne
          have lr : loadN 3 ⟨h1.next, 0, none⟩ (g6.wr h1.next 0 (cellsOf (mvV (s1.1 : Int) (s2.1 : Int) w))) = .ok (mvV (s1.1 : Int) (s2.1 : Int) w) _ := rs.loadN (by simp [over, mvV, cells_agg])
          have own6 : g6.Own g5.next 3 w (ints .i64 zs) := D'.own.ext D'.ext.wf xr
          refine ⟨(s1.1 : Int), (s2.1 : Int), zs, _, w, ?_, ?_, xs, (own6.keep fun b el L hbk r => ys b el L (fun hx => (own6.apart (b := h1.next) (by omega)) (hx ▸ hbk)) r).vals⟩
          · unfold readL
            rw [hrA]
            simp only
            rw [if_pos hR]
          · rw [call16 rfl, d16_is, p1, qS_is]
            simp only [cSeq_is, cBlock_is, q1, blockX_exit, seqX_norm]
            unfold qE
            simp only [cOp_is, cDo_is, cCond_is, cSeq_is, cBlock_is, cNorm_is, cRet_is, cExit_is, opX_ok, doX_ok, condX_true, condX_false, seqX_norm, seqX_exit, seqX_ret, blockX_norm, blockX_ret, blockX_exit, oMove_is, kV_is, slot_set, Nat.reduceLT, Nat.reduceEqDiff, if_true, if_false, reduceIte, cG_is, guardX_tt, guardX_tf, guardX_ft, guardX_ff, guardX_none, skipC_is, oPick_is, pickR_true, pickR_false, oLoad1_is, S5, loadR_is, ld5, S4, ld4, S1, ld1, oLenS_is, Vl, oCmp_is, cmpR_is, c0, oLoadN_is, S7, loadsR_is, ld7, oCall_is, vals_cons, vals_nil, kr, oNot_is, notR_is, Bool.not_true, ld7', oStore_is, S2, st, leave_ret, finish_cN, lr, finR_ok]
        | false =>
          right
          rw [hR] at kr
          obtain ⟨g', c1, c2, c3⟩ := bad g6 xx R2'
          refine ⟨?_, g', ?_, c2⟩
          · unfold readL
            rw [hrA]
            simp only
            rw [if_neg (by rw [hR]; decide)]
          · rw [call16 rfl, d16_is, p1, qS_is]
            simp only [cSeq_is, cBlock_is, q1, blockX_exit, seqX_norm]
            unfold qE noMv
            simp only [cOp_is, cDo_is, cCond_is, cSeq_is, cBlock_is, cNorm_is, cRet_is, cExit_is, opX_ok, doX_ok, condX_true, condX_false, seqX_norm, seqX_exit, seqX_ret, blockX_norm, blockX_ret, blockX_exit, oMove_is, kV_is, slot_set, Nat.reduceLT, Nat.reduceEqDiff, if_true, if_false, reduceIte, cG_is, guardX_tt, guardX_tf, guardX_ft, guardX_ff, guardX_none, skipC_is, oPick_is, pickR_true, pickR_false, oLoad1_is, S5, loadR_is, ld5, S4, ld4, S1, ld1, oLenS_is, Vl, oCmp_is, cmpR_is, c0, oLoadN_is, S7, loadsR_is, ld7, oCall_is, vals_cons, vals_nil, kr, oNot_is, notR_is, Bool.not_false, oBuild_is, zero31, fillL_nil, oStore_is, S2, c1, leave_ret, finish_cN, c3, finR_ok]
      · right
        have c0 : iNe (p : Int) (l.length : Int) = true := by rw [iNe_is]; simp; omega
        have hdr : l.drop p = l.getD p 0 :: l.drop (p + 1) := by
          have : p < l.length := by omega
          rw [List.drop_eq_getElem_cons this, List.getD_eq_getElem?_getD, List.getElem?_eq_getElem this]; rfl
        rw [hdr] at hrA
        obtain ⟨g', c1, c2, c3⟩ := bad h' D'.ext D'.r2
        refine ⟨by unfold readL; rw [hrA], g', ?_, c2⟩
        rw [call16 rfl, d16_is, p1, qS_is]
        simp only [cSeq_is, cBlock_is, q1, blockX_exit, seqX_norm]
        unfold qE noMv
        simp only [cOp_is, cDo_is, cCond_is, cSeq_is, cBlock_is, cNorm_is, cRet_is, cExit_is, opX_ok, doX_ok, condX_true, condX_false, seqX_norm, seqX_exit, seqX_ret, blockX_norm, blockX_ret, blockX_exit, oMove_is, kV_is, slot_set, Nat.reduceLT, Nat.reduceEqDiff, if_true, if_false, reduceIte, cG_is, guardX_tt, guardX_tf, guardX_ft, guardX_ff, guardX_none, skipC_is, oPick_is, pickR_true, pickR_false, oLoad1_is, S5, loadR_is, ld5, S4, ld4, S1, ld1, oLenS_is, Vl, oCmp_is, cmpR_is, c0, oBuild_is, zero31, fillL_nil, oStore_is, S2, c1, leave_ret, finish_cN, oLoadN_is, loadsR_is, c3, finR_ok]
  · right
    rw [q6] at hrA
    rw [if_neg (by decide), q7] at hrA
    have lr : loadN 3 ⟨h1.next, 0, none⟩ h' = .ok (.agg ⟨[.int .i64 0, .int .i64 0, .slice none 0 0]⟩) h' := q5.loadN (by simp)
    refine ⟨by unfold readL; rw [hrA], h', ?_, q2⟩
    rw [call16 rfl, d16_is, p1, qS_is]
    unfold ptr at q3
    unfold noMv
    simp only [cSeq_is, cBlock_is, q1, blockX_ret, seqX_ret, leave_ret, finish_cN, q3, q4, loadsR_is, lr, finR_ok]
end Go.Proofs.Ytkafejncffinmaa
set_option linter.unusedVariables false
set_option linter.unusedSimpArgs false
namespace Go.Proofs.Ytkafejncffinmaa
open Go
set_option maxRecDepth 100000
theorem deltas_len : ∀ (zs : List Int) (p last : Int), risingL p zs = true → (p = last ∨ p = -1 ∧ last = 0) → 0 ≤ last → (deltas last zs).length ≤ 10 * zs.length
  | [], _, _, _, _, _ => Nat.le_refl _
  | n :: l, p, last, h, hp, h0 => by
    unfold risingL at h
    rw [Bool.and_eq_true, decide_eq_true_eq] at h
    obtain ⟨⟨h1, h2, h3⟩, h4⟩ := h
    have e := deltas_len l n n h4 (.inl rfl) h1
    have := uintL_ten (n := (n - last).toNat) (by omega)
    show (uintL (n - last).toNat ++ deltas n l).length ≤ 10 * (l.length + 1)
    rw [List.length_append]; omega
theorem bytesL_len {f t : Int} {zs : List Int} (h : rightB f t zs = true) : (bytesL f t zs).length ≤ 30 + 10 * zs.length := by
  obtain ⟨h1, h2, h3, h4, _, h5, h6⟩ := right_parts h
  have := deltas_len zs (-1) 0 h6 (.inr ⟨rfl, rfl⟩) (by omega)
  have a := uintL_ten (n := f.toNat) (by omega)
  have b := uintL_ten (n := t.toNat) (by omega)
  have c := uintL_ten (n := zs.length) (by omega)
  unfold bytesL
  simp only [List.length_append]
  omega
theorem ty4k : ty4.k = .bool := by kernel_rfl
noncomputable def eqBR (neg : Bool) (a b : Value) (h : Hp) : R := match eqV .bool a b with
  | some r => okB (neg != r) h
  | none => .no
theorem oEq_is {F : CallF} {e : Env} {h : Hp} {x y : O} {neg : Bool} : oEq ty4.k neg x y F e h = eqBR neg (x e) (y e) h := by rw [ty4k]; rfl
theorem eqBR_is {h : Hp} {neg c d : Bool} : eqBR neg (.bool c) (.bool d) h = .ok (.bool (neg != (c == d))) h := okB_is
theorem Hp.Vals.one {h : Hp} {v : Value} {l : List Value} (b : h.Vals v l) : known v = true ∧ cellsOf v = [v] ∧ oneCell v = true := by
  obtain ⟨a, c, rfl⟩ := b.shape
  exact ⟨rfl, rfl, rfl⟩
/-- three cells for a move -/
theorem cell3 {h g : Hp} (x : h.Ext g) {a b c : Value} (h1 : allOne [a, b, c] = true) : ∃ g', (∀ (F : CallF) (e : Env), oAlloc 3 zt31 F e g = .ok (.pointer (some ⟨g.next, 0, none⟩)) (g.push (.cells zt31 3 0))) ∧
    storeR 3 (.pointer (some ⟨g.next, 0, none⟩)) (.agg ⟨[a, b, c]⟩) (g.push (.cells zt31 3 0)) = .ok noRes g' ∧ h.Ext g' ∧ g.Ext g' ∧ g'.Row g.next 0 [a, b, c] ∧ g'.next = g.next + 1 := by
  have x2 := x.push (.cells zt31 3 0)
  have y2 := (Hp.Ext.refl x.wf).push (.cells zt31 3 0)
  have R2 : (g.push (.cells zt31 3 0)).Row g.next 0 [.int .i64 0, .int .i64 0, .slice none 0 0] := Hp.Row.alloc x.wf zt31_is rfl
  have n2 : (g.push (.cells zt31 3 0)).next = g.next + 1 := rfl
  have f2 := fun (F : CallF) (e : Env) => oAlloc_is (F := F) (e := e) (n := 3) (t := zt31) x.wf
  generalize g.push (.cells zt31 3 0) = g2 at x2 y2 R2 f2 n2
  have st := R2.storeR (n := 3) (off := 0) x2.wf x.wf.big (v := .agg ⟨[a, b, c]⟩) rfl (by simp [cells_agg]) h1
  exact ⟨_, f2, st, R2.wr_ext x2 x.next (by simp [cells_agg]), R2.wr_ext y2 (Nat.le_refl _) (by simp [cells_agg]), R2.wr_self x2.wf (by simp [cells_agg]), (R2.wr_next (by simp [cells_agg])).trans n2⟩
theorem cut_is {F : CallF} {e : Env} {h : Hp} {x y : O} {b N m : Nat} (hx : x e = .slice (some ⟨b, 0, none⟩) N N) (hy : y e = .int .i64 (m : Int)) (hm : m < N) : oCut 5 1 x none (some y) none F e h = .ok (.slice (some ⟨b, 0, none⟩) m N) h := by
  show (match x e with | .slice a n c => bounds e n c none (some y) none (fun l hh m => cutF 5 1 a false l hh m h) | _ => .no) = _
  rw [hx]
  show (match natV (y e) with | .ok n => (bif Nat.ble n N then cutF 5 1 (some ⟨b, 0, none⟩) false 0 n N h else .no) | .no => .no) = _
  rw [hy, natV_cast]
  simp only
  rw [nat_ble.2 (Nat.le_of_lt hm)]
  show sliceOf (some ⟨b, 0, none⟩) 1 0 m N h = _
  unfold sliceOf
  simp only [forceN_is]
  cases N with
  | zero => omega
  | succ N => rfl
noncomputable def mC : C := (cOp (slotT 64) (oCall 16 [(slotG 11)])
(cOp (slotT 65) (oExtract 0 (slotG 64))
(cOp (slotT 66) (oExtract 1 (slotG 64))
(cOp (slotT 13) (oAlloc 3 zt31)
(cDo (oStore 3 (slotG 13) (slotG 65))
(cOp (slotT 14) (oMove (slotG 66))
(cOp (slotT 68) (oCmp iNe .i64 (slotG 14) (kV (.int .i64 0)))
(cG (slotG 68) false (slotT 70) (oLoadN 3 (slotG 13))
(cG (slotG 68) false (slotT 71) (oLoadN 3 (slotG 3))
(cG (slotG 68) false (slotT 72) (oCall 22 [(slotG 70), (slotG 71)])
(cG (slotG 68) false (slotT 73) (oNot (slotG 72))
(cOp (slotT 74) (oPick (slotG 68) (kV (.bool true)) (slotG 73))
(cG (slotG 74) false (slotT 76) (oMove (slotG 11))
(cG (slotG 74) false (slotT 77) (oLenS (slotG 76))
(cG (slotG 74) false (slotT 78) (oCmp iEq .i64 (slotG 77) (kV (.int .i64 0)))
(cOp (slotT 79) (oPick (slotG 74) (kV (.bool true)) (slotG 78))
(cCond (slotG 79)
(cOp (slotT 6) (oMove (kV (.bool false)))
cRet)
(cOp (slotT 83) (oConv .i64 (slotG 1))
(cOp (slotT 85) (oLenS (slotG 11))
(cOp (slotT 86) (oRem .i64 (slotG 83) (slotG 85))
(cOp (slotT 87) (oCut 5 1 (slotG 11) none (some (slotG 86)) none)
(cOp (slotT 88) (oCall 16 [(slotG 87)])
(cOp (slotT 89) (oExtract 0 (slotG 88))
(cOp (slotT 90) (oExtract 1 (slotG 88))
(cOp (slotT 15) (oAlloc 3 zt31)
(cDo (oStore 3 (slotG 15) (slotG 89))
(cOp (slotT 16) (oMove (slotG 90))
(cOp (slotT 93) (oCall 28 [(slotG 11)])
(cOp (slotT 95) (oConv .u8 (slotG 1))
(cOp (slotT 96) (oBuildSlice 1 (repL ty5.zero 1) [(0, 1, (slotG 95))])
(cOp (slotT 97) (oAppend 1 1 5 (slotG 93) (slotG 96))
(cOp (slotT 98) (oCall 16 [(slotG 97)])
(cOp (slotT 99) (oExtract 0 (slotG 98))
(cOp (slotT 100) (oExtract 1 (slotG 98))
(cOp (slotT 17) (oAlloc 3 zt31)
(cDo (oStore 3 (slotG 17) (slotG 99))
(cOp (slotT 18) (oMove (slotG 100))
(cOp (slotT 102) (oCmp iEq .i64 (slotG 16) (kV (.int .i64 167)))
(cG (slotG 102) true (slotT 104) (oMove (slotG 18))
(cG (slotG 102) true (slotT 105) (oCmp iEq .i64 (slotG 104) (kV (.int .i64 167)))
(cOp (slotT 106) (oPick (slotG 102) (slotG 105) (kV (.bool false)))
(cG (slotG 106) true (slotT 108) (oCall 14 [])
(cOp (slotT 109) (oPick (slotG 106) (slotG 108) (kV (.bool false)))
(cOp (slotT 6) (oMove (slotG 109))
cRet))))))))))))))))))))))))))))))))))))))))))))
noncomputable def mA : C := (cCond (slotG 35)
(cOp (slotT 37) (oLoadN 3 (slotG 7))
(cOp (slotT 38) (oCall 15 [(slotG 37)])
(cOp (slotT 39) (oExtract 0 (slotG 38))
(cOp (slotT 40) (oExtract 1 (slotG 38))
(cOp (slotT 9) (oMove (slotG 39))
(cOp (slotT 10) (oMove (slotG 40))
(cOp (slotT 42) (oCmp iNe .i64 (slotG 10) (kV (.int .i64 0)))
(cG (slotG 42) false (slotT 44) (oMove (slotG 9))
(cG (slotG 42) false (slotT 45) (oMove (slotG 2))
(cG (slotG 42) false (slotT 46) (oCall 26 [(slotG 44), (slotG 45)])
(cG (slotG 42) false (slotT 47) (oNot (slotG 46))
(cOp (slotT 48) (oPick (slotG 42) (kV (.bool true)) (slotG 47))
(cCond (slotG 48)
(cOp (slotT 6) (oMove (kV (.bool false)))
cRet)
cNorm)))))))))))))
cNorm)
noncomputable def mB : C := (cOp (slotT 50) (oLoadN 3 (slotG 3))
(cOp (slotT 51) (oCall 15 [(slotG 50)])
(cOp (slotT 52) (oExtract 0 (slotG 51))
(cOp (slotT 53) (oExtract 1 (slotG 51))
(cOp (slotT 11) (oMove (slotG 52))
(cOp (slotT 12) (oMove (slotG 53))
(cOp (slotT 55) (oCmp iEq .i64 (slotG 12) (kV (.int .i64 0)))
(cOp (slotT 56) (oLoadN 3 (slotG 3))
(cOp (slotT 57) (oCall 9 [(slotG 56)])
(cOp (slotT 58) (oEq ty4.k true (slotG 55) (slotG 57))
(cCond (slotG 58)
(cOp (slotT 6) (oMove (kV (.bool false)))
cRet)
(cOp (slotT 60) (oCmp iNe .i64 (slotG 12) (kV (.int .i64 0)))
(cCond (slotG 60)
(cOp (slotT 61) (oCall 14 [])
(cOp (slotT 6) (oMove (slotG 61))
cRet))
(cOp (slotT 64) (oCall 16 [(slotG 11)])
(cOp (slotT 65) (oExtract 0 (slotG 64))
(cOp (slotT 66) (oExtract 1 (slotG 64))
(cOp (slotT 13) (oAlloc 3 zt31)
(cDo (oStore 3 (slotG 13) (slotG 65))
(cOp (slotT 14) (oMove (slotG 66))
(cOp (slotT 68) (oCmp iNe .i64 (slotG 14) (kV (.int .i64 0)))
(cG (slotG 68) false (slotT 70) (oLoadN 3 (slotG 13))
(cG (slotG 68) false (slotT 71) (oLoadN 3 (slotG 3))
(cG (slotG 68) false (slotT 72) (oCall 22 [(slotG 70), (slotG 71)])
(cG (slotG 68) false (slotT 73) (oNot (slotG 72))
(cOp (slotT 74) (oPick (slotG 68) (kV (.bool true)) (slotG 73))
(cG (slotG 74) false (slotT 76) (oMove (slotG 11))
(cG (slotG 74) false (slotT 77) (oLenS (slotG 76))
(cG (slotG 74) false (slotT 78) (oCmp iEq .i64 (slotG 77) (kV (.int .i64 0)))
(cOp (slotT 79) (oPick (slotG 74) (kV (.bool true)) (slotG 78))
(cCond (slotG 79)
(cOp (slotT 6) (oMove (kV (.bool false)))
cRet)
(cOp (slotT 83) (oConv .i64 (slotG 1))
(cOp (slotT 85) (oLenS (slotG 11))
(cOp (slotT 86) (oRem .i64 (slotG 83) (slotG 85))
(cOp (slotT 87) (oCut 5 1 (slotG 11) none (some (slotG 86)) none)
(cOp (slotT 88) (oCall 16 [(slotG 87)])
(cOp (slotT 89) (oExtract 0 (slotG 88))
(cOp (slotT 90) (oExtract 1 (slotG 88))
(cOp (slotT 15) (oAlloc 3 zt31)
(cDo (oStore 3 (slotG 15) (slotG 89))
(cOp (slotT 16) (oMove (slotG 90))
(cOp (slotT 93) (oCall 28 [(slotG 11)])
(cOp (slotT 95) (oConv .u8 (slotG 1))
(cOp (slotT 96) (oBuildSlice 1 (repL ty5.zero 1) [(0, 1, (slotG 95))])
(cOp (slotT 97) (oAppend 1 1 5 (slotG 93) (slotG 96))
(cOp (slotT 98) (oCall 16 [(slotG 97)])
(cOp (slotT 99) (oExtract 0 (slotG 98))
(cOp (slotT 100) (oExtract 1 (slotG 98))
(cOp (slotT 17) (oAlloc 3 zt31)
(cDo (oStore 3 (slotG 17) (slotG 99))
(cOp (slotT 18) (oMove (slotG 100))
(cOp (slotT 102) (oCmp iEq .i64 (slotG 16) (kV (.int .i64 167)))
(cG (slotG 102) true (slotT 104) (oMove (slotG 18))
(cG (slotG 102) true (slotT 105) (oCmp iEq .i64 (slotG 104) (kV (.int .i64 167)))
(cOp (slotT 106) (oPick (slotG 102) (slotG 105) (kV (.bool false)))
(cG (slotG 106) true (slotT 108) (oCall 14 [])
(cOp (slotT 109) (oPick (slotG 106) (slotG 108) (kV (.bool false)))
(cOp (slotT 6) (oMove (slotG 109))
cRet)))))))))))))))))))))))))))))))))))))))))))))))))))))))))
noncomputable def mBh : C := (cOp (slotT 50) (oLoadN 3 (slotG 3))
(cOp (slotT 51) (oCall 15 [(slotG 50)])
(cOp (slotT 52) (oExtract 0 (slotG 51))
(cOp (slotT 53) (oExtract 1 (slotG 51))
(cOp (slotT 11) (oMove (slotG 52))
(cOp (slotT 12) (oMove (slotG 53))
(cOp (slotT 55) (oCmp iEq .i64 (slotG 12) (kV (.int .i64 0)))
(cOp (slotT 56) (oLoadN 3 (slotG 3))
(cOp (slotT 57) (oCall 9 [(slotG 56)])
(cOp (slotT 58) (oEq ty4.k true (slotG 55) (slotG 57))
(cCond (slotG 58)
(cOp (slotT 6) (oMove (kV (.bool false)))
cRet)
(cOp (slotT 60) (oCmp iNe .i64 (slotG 12) (kV (.int .i64 0)))
(cCond (slotG 60)
(cOp (slotT 61) (oCall 14 [])
(cOp (slotT 6) (oMove (slotG 61))
cRet))
mC)))))))))))))
theorem mB_h : mB = mBh := rfl
theorem mC_is {n : Nat} {h g : Hp} (W : h.Wf) (x : h.Ext g) {f t : Int} {u c : Value} {zs : List Int} (V : h.Vals u (ints .i64 zs)) (hz : zs.length ≤ 100) (hr : rightB f t zs = true) {k A : Nat} (hk : h.next ≤ k) (o : g.Own k 5 c ((bytesL f t zs).map bv)) (RA : g.Row A 0 [.int .i64 f, .int .i64 t, u]) {cut : Nat} (hcut : cut < 65536)
    {e : Env} (s1 : slotG 1 e = .int .u16 (cut : Int)) (s3 : slotG 3 e = .pointer (some ⟨A, 0, none⟩)) (s11 : slotG 11 e = c) : ∃ e' g', mC (call bodies (n + 5)) e g = .ret e' g' ∧ h.Ext g' ∧ slotG 6 e' = .bool true := by
  have hlen := bytesL_len hr
  have hpos := bytesL_pos f t zs
  have hlt := bytesL_lt f t zs
  have hput := readL_put hr
  have hmore := readL_more hr (x := cut % 256) (Nat.mod_lt _ (by omega))
  have hcutn := readL_cut hr (k := cut % (bytesL f t zs).length) (Nat.mod_lt _ hpos)
  generalize bytesL f t zs = L at o hlen hpos hlt hput hmore hcutn
  have V0 := o.vals
  obtain ⟨ok1, ok2, ok3⟩ := V0.one
  -- it is read
  rcases read_is (n := n + 1) x.wf V0 hlt (by omega) ok1 ok2 with ⟨f', t', zs', g1, w, q1, q2, q3, q4⟩ | ⟨q1, _⟩
  case inr => rw [hput] at q1; cases q1
  rw [hput] at q1
  cases q1
  have x1 := x.trans q3
  obtain ⟨_, _, ow⟩ := q4.one
  obtain ⟨g2, al2, st2, x2, y2, R2, nx2⟩ := cell3 x1 (a := .int .i64 f) (b := .int .i64 t) (c := w) (by show (bif oneCell w then true else false) = true; rw [ow]; rfl)
  have z2 := q3.trans y2
  have RA2 := RA.ext x.wf z2
  have l2 : loadN 3 ⟨g1.next, 0, none⟩ g2 = .ok (mvV f t w) g2 := R2.loadN (by simp)
  have lA : loadN 3 ⟨A, 0, none⟩ g2 = .ok (mvV f t u) g2 := RA2.loadN (by simp)
  obtain ⟨g3, q5, q6⟩ := sm_is (n := n + 3) x2.wf (f := f) (t := t) (q4.ext x1.wf y2) (V.ext W x2) (by omega)
  have x3 := x2.trans q6
  have o3 := o.ext x.wf (z2.trans q6)
  have V3 := o3.vals
  have Vl : lenSR c g3 = .ok (.int .i64 (L.length : Int)) g3 := by have := V3.len; rwa [List.length_map] at this
  have c0 : iEq (L.length : Int) 0 = false := by
    rw [iEq_is]
    have : (L.length : Int) ≠ 0 := by omega
    simpa using this
  have cv1 : convR .i64 (.int .u16 (cut : Int)) g3 = .ok (.int .i64 (cut : Int)) g3 := by rw [convR_is, wrap_nat (by omega)]
  have rm1 : remR .i64 (.int .i64 (cut : Int)) (.int .i64 (L.length : Int)) g3 = .ok (.int .i64 ((cut % L.length : Nat) : Int)) g3 := by rw [remR_is (by omega)]; rfl
  -- cut
  have hcl : cut % L.length < L.length := Nat.mod_lt _ hpos
  obtain ⟨b, hcv⟩ : ∃ b, c = .slice (some ⟨b, 0, none⟩) L.length L.length := by
    rcases o with ⟨_, h2⟩ | ⟨b, h1, _⟩
    · have := congrArg List.length h2
      rw [List.length_map, List.length_nil] at this; omega
    · rw [List.length_map] at h1; exact ⟨b, h1⟩
  have Vc : g3.Vals (.slice (some ⟨b, 0, none⟩) (cut % L.length) L.length) ((L.take (cut % L.length)).map bv) := by
    obtain ⟨o', c', h1, h2⟩ := V3.cut (n := cut % L.length) (by rw [List.length_map]; exact hcl)
    rw [hcv, List.length_map] at h1
    cases h1
    rw [List.map_take]; exact h2
  have ct : ∀ e : Env, slotG 11 e = c → slotG 86 e = .int .i64 ((cut % L.length : Nat) : Int) → oCut 5 1 (slotG 11) none (some (slotG 86)) none (call bodies (n + 5)) e g3 = .ok (.slice (some ⟨b, 0, none⟩) (cut % L.length) L.length) g3 := fun e h1 h2 => cut_is (h1.trans hcv) h2 hcl
  rcases read_is (n := n + 1) x3.wf Vc (fun y hy => hlt y (List.mem_of_mem_take hy)) (by rw [List.length_take]; omega) rfl rfl with ⟨_, _, _, _, _, r1, _⟩ | ⟨_, g4, q7, q8⟩
  case inl => rw [hcutn] at r1; cases r1
  have x4 := x3.trans q8
  obtain ⟨g5, al5, st5, x5, y5, R5, nx5⟩ := cell3 x4 (a := .int .i64 0) (b := .int .i64 0) (c := .slice none 0 0) rfl
  have o5 := (o3.ext x3.wf q8).ext x4.wf y5
  -- a byte more
  obtain ⟨g6, v6, q9, x6, o6, nx6, _⟩ := cb_is (n := n + 4) (k := g5.next) x5 x5.next (Nat.le_refl _) o5.vals hpos (by omega)
  have cv2 : convR .u8 (.int .u16 (cut : Int)) g6 = .ok (.int .u8 ((cut % 256 : Nat) : Int)) g6 := by rw [convR_is, wrap_u8]
  have os : ∀ e : Env, slotG 95 e = .int .u8 ((cut % 256 : Nat) : Int) → oBuildSlice 1 (repL ty5.zero 1) [(0, 1, slotG 95)] (call bodies (n + 5)) e g6 = .ok (.slice (some ⟨g6.next, 0, none⟩) 1 1) (g6.pushRow 0 [.int .u8 ((cut % 256 : Nat) : Int)]) := fun e he => by rw [zero5]; exact one_slice x6.wf he rfl rfl
  obtain ⟨g7, v7, q10, x7, o7, nx7, _⟩ := own_one (eb := 1) (n := ((cut % 256 : Nat) : Int)) (kd := .u8) x6 x5.next (by omega) o6 (by rw [List.length_map]; omega)
  have V7 : g7.Vals v7 ((L ++ [cut % 256]).map bv) := by rw [List.map_append]; exact o7.vals
  obtain ⟨k71, k72, _⟩ := V7.one
  rcases read_is (n := n + 1) x7.wf V7 (fun y hy => by
      rcases List.mem_append.1 hy with hy | hy
      · exact hlt y hy
      · rw [List.mem_singleton] at hy; omega) (by rw [List.length_append, List.length_singleton]; omega) k71 k72 with ⟨_, _, _, _, _, r1, _⟩ | ⟨_, g8, q11, q12⟩
  case inl => rw [hmore] at r1; cases r1
  have x8 := x7.trans q12
  obtain ⟨g9, al9, st9, x9, y9, R9, nx9⟩ := cell3 x8 (a := .int .i64 0) (b := .int .i64 0) (c := .slice none 0 0) rfl
  have aw := call_awake (bs := bodies) (n := n + 4) (f := 14) awake_at (h := g9)
  have i0 : iNe 0 0 = false := rfl
  have i1 : iEq 167 167 = true := rfl
  have hrun : ∃ e', mC (call bodies (n + 5)) e g = .ret e' g9 ∧ slotG 6 e' = .bool true := by
    unfold mC
    unfold noMv at q7 q11
    unfold mvV at q2
    simp only [cOp_is, cDo_is, cCond_is, cSeq_is, cBlock_is, cNorm_is, cRet_is, cExit_is, opX_ok, doX_ok, condX_true, condX_false, seqX_norm, seqX_exit, seqX_ret, blockX_norm, blockX_ret, blockX_exit, oMove_is, kV_is, slot_set, Nat.reduceLT, Nat.reduceEqDiff, if_true, if_false, reduceIte, cG_is, guardX_tt, guardX_tf, guardX_ft, guardX_ff, guardX_none, skipC_is, oPick_is, pickR_true, pickR_false, oCall_is, vals_cons, vals_nil, s11, q2, oExtract_is, extractR_0, extractR_1, al2, oStore_is, st2, oCmp_is, cmpR_is, i0, oLoadN_is, loadsR_is, l2, s3, lA, q5, oNot_is, notR_is, Bool.not_true, oLenS_is, Vl, c0, s1, oConv_is, cv1, oRem_is, rm1, ct, q7, al5, st5, q9, cv2, os, oAppend_is, q10, q11, al9, st9, i1, aw]
    exact ⟨_, rfl, by simp only [slot_set, Nat.reduceLT, Nat.reduceEqDiff, if_true, if_false, reduceIte]⟩
  obtain ⟨e', r1, r2⟩ := hrun
  exact ⟨e', g9, r1, x9, r2⟩
theorem mB_is {n : Nat} {h g : Hp} (W : h.Wf) (x : h.Ext g) {f t : Int} {u : Value} {zs : List Int} (V : h.Vals u (ints .i64 zs)) (hz : zs.length ≤ 100) {A : Nat} (RA : g.Row A 0 [.int .i64 f, .int .i64 t, u]) {cut : Nat} (hcut : cut < 65536)
    {e : Env} (s1 : slotG 1 e = .int .u16 (cut : Int)) (s3 : slotG 3 e = .pointer (some ⟨A, 0, none⟩)) : ∃ e' g', mB (call bodies (n + 5)) e g = .ret e' g' ∧ h.Ext g' ∧ slotG 6 e' = .bool true := by
  have lA : loadN 3 ⟨A, 0, none⟩ g = .ok (mvV f t u) g := RA.loadN (by simp)
  cases hr : rightB f t zs with
  | false =>
    obtain ⟨g1, q1, q2⟩ := bytes_no (n := n + 2) x.wf (V.ext W x) (by omega) hr
    have x1 := x.trans q2
    have lA1 : loadN 3 ⟨A, 0, none⟩ g1 = .ok (mvV f t u) g1 := (RA.ext x.wf q2).loadN (by simp)
    have k1 := right_is (n := n + 3) x1.wf (V.ext W x1) (by omega) (f := f) (t := t)
    rw [hr] at k1
    have x2 := x1.trans (right_ext x1.wf (f := f) (t := t) (u := u))
    generalize g1.pushRow 0 [.int .i64 f, .int .i64 t, u] = g2 at k1 x2
    have aw := call_awake (bs := bodies) (n := n + 4) (f := 14) awake_at (h := g2)
    have i0 : iEq 167 0 = false := rfl
    have i1 : iNe 167 0 = true := rfl
    have i2 : (true != (false == false)) = false := rfl
    have hrun : ∃ e', mB (call bodies (n + 5)) e g = .ret e' g2 ∧ slotG 6 e' = .bool true := by
      unfold mB
      simp only [cOp_is, cDo_is, cCond_is, cSeq_is, cBlock_is, cNorm_is, cRet_is, cExit_is, opX_ok, doX_ok, condX_true, condX_false, seqX_norm, seqX_exit, seqX_ret, blockX_norm, blockX_ret, blockX_exit, oMove_is, kV_is, slot_set, Nat.reduceLT, Nat.reduceEqDiff, if_true, if_false, reduceIte, cG_is, guardX_tt, guardX_tf, guardX_ft, guardX_ff, guardX_none, skipC_is, oPick_is, pickR_true, pickR_false, oLoadN_is, s3, loadsR_is, lA, oCall_is, vals_cons, vals_nil, q1, oExtract_is, extractR_0, extractR_1, oCmp_is, cmpR_is, i0, lA1, k1, oEq_is, eqBR_is, i2, i1, aw]
      exact ⟨_, rfl, by simp only [slot_set, Nat.reduceLT, Nat.reduceEqDiff, if_true, if_false, reduceIte]⟩
    obtain ⟨e', r1, r2⟩ := hrun
    exact ⟨e', g2, r1, x2, r2⟩
  | true =>
    obtain ⟨g1, c, k, q1, q2, q3, q4, q5⟩ := bytes_ok (n := n + 2) x.wf (V.ext W x) hr
    have x1 := x.trans q2
    have RA1 := RA.ext x.wf q2
    have lA1 : loadN 3 ⟨A, 0, none⟩ g1 = .ok (mvV f t u) g1 := RA1.loadN (by simp)
    have k1 := right_is (n := n + 3) x1.wf (V.ext W x1) (by omega) (f := f) (t := t)
    rw [hr] at k1
    have y2 := right_ext x1.wf (f := f) (t := t) (u := u)
    have x2 := x1.trans y2
    have RA2 := RA1.ext x1.wf y2
    have o2 := q5.ext x1.wf y2
    generalize g1.pushRow 0 [.int .i64 f, .int .i64 t, u] = g2 at k1 x2 RA2 o2 y2
    have i0 : iEq 0 0 = true := rfl
    have i1 : iNe 0 0 = false := rfl
    have i2 : (true != (true == true)) = false := rfl
    have hrun : ∃ e1, mB (call bodies (n + 5)) e g = mC (call bodies (n + 5)) e1 g2 ∧ slotG 1 e1 = .int .u16 (cut : Int) ∧ slotG 3 e1 = .pointer (some ⟨A, 0, none⟩) ∧ slotG 11 e1 = c := by
      rw [mB_h]
      unfold mBh
      simp only [cOp_is, cCond_is, opX_ok, condX_false, oMove_is, kV_is, slot_set, Nat.reduceLT, Nat.reduceEqDiff, if_true, if_false, reduceIte, oLoadN_is, s3, loadsR_is, lA, oCall_is, vals_cons, vals_nil, q1, oExtract_is, extractR_0, extractR_1, oCmp_is, cmpR_is, i0, lA1, k1, oEq_is, eqBR_is, i2, i1]
      exact ⟨_, rfl, by simp only [slot_set, Nat.reduceLT, Nat.reduceEqDiff, if_true, if_false, reduceIte]; exact s1, by simp only [slot_set, Nat.reduceLT, Nat.reduceEqDiff, if_true, if_false, reduceIte]; exact s3, by simp only [slot_set, Nat.reduceLT, Nat.reduceEqDiff, if_true, if_false, reduceIte]⟩
    obtain ⟨e1, r1, r2, r3, r4⟩ := hrun
    obtain ⟨e', g', w1, w2, w3⟩ := mC_is (n := n) W x2 V hz hr (Nat.le_trans x.next q3) o2 RA2 hcut r2 r3 r4
    exact ⟨e', g', r1.trans w1, w2, w3⟩
noncomputable def d6head : C := (cOp (slotT 3) (oBox (slotG 0))
(cOp (slotT 6) (oMove (kV (.bool false)))
(cOp (slotT 19) (oFieldAddr 2 (slotG 3))
(cOp (slotT 20) (oLoad1 (slotG 19))
(cOp (slotT 21) (oLenS (slotG 20))
(cOp (slotT 22) (oCmp iGt .i64 (slotG 21) (kV (.int .i64 100)))
(cG (slotG 22) false (slotT 24) (oMove (slotG 2))
(cG (slotG 22) false (slotT 25) (oLenS (slotG 24))
(cG (slotG 22) false (slotT 26) (oCmp iGt .i64 (slotG 25) (kV (.int .i64 500)))
(cOp (slotT 27) (oPick (slotG 22) (kV (.bool true)) (slotG 26))
(cCond (slotG 27)
(cOp (slotT 28) (oCall 14 [])
(cOp (slotT 6) (oMove (slotG 28))
cRet))
(cOp (slotT 31) (oCall 16 [(slotG 2)])
(cOp (slotT 32) (oExtract 0 (slotG 31))
(cOp (slotT 33) (oExtract 1 (slotG 31))
(cOp (slotT 7) (oAlloc 3 zt31)
(cDo (oStore 3 (slotG 7) (slotG 32))
(cOp (slotT 8) (oMove (slotG 33))
(cOp (slotT 35) (oCmp iEq .i64 (slotG 8) (kV (.int .i64 0)))
(cSeq mA
mB)))))))))))))))))))
theorem d6_is : d6 = d6head := rfl
theorem mbytes_is {n : Nat} {h : Hp} (W : h.Wf) {f t : Int} {u v : Value} {zs : List Int} {l : List Nat} (V : h.Vals u (ints .i64 zs)) (B : h.Vals v (l.map bv)) (hb : ∀ x ∈ l, x < 256) {cut : Nat} (hcut : cut < 65536) : ∃ h', call bodies (n + 6) 6 [mvV f t u, .int .u16 (cut : Int), v] h = .ok (.bool true) h' ∧ h.Ext h' := by
  have R := Hp.Row.new W 0 [.int .i64 f, .int .i64 t, u]
  have x1 := (Hp.Ext.refl W).pushRow 0 [.int .i64 f, .int .i64 t, u]
  have hbx : ∀ e : Env, slotG 0 e = mvV f t u → oBox (slotG 0) (call bodies (n + 5)) e h = .ok (.pointer (some ⟨h.next, 0, none⟩)) (h.pushRow 0 [.int .i64 f, .int .i64 t, u]) := fun e he => by rw [oBox_is, he, boxR_is W]; rfl
  generalize h.pushRow 0 [.int .i64 f, .int .i64 t, u] = h1 at R x1 hbx
  have V1 := V.ext W x1
  have B1 := B.ext W x1
  have l2 : load1 ⟨h.next, 2, none⟩ h1 = .ok u h1 := R.load1 (off := 2) (by simp)
  have Bl : lenSR v h1 = .ok (.int .i64 (l.length : Int)) h1 := by have := B1.len; rwa [List.length_map] at this
  obtain ⟨bk1, bk2, _⟩ := B1.one
  have aw := call_awake (bs := bodies) (n := n + 4) (f := 14) awake_at (h := h1)
  rw [call6 rfl, d6_is]
  by_cases hz : zs.length ≤ 100
  case neg =>
    have c1 : iGt (zs.length : Int) 100 = true := by rw [iGt_is]; simp; omega
    refine ⟨h1, ?_, x1⟩
    unfold d6head
    simp only [setArgs_cons, setArgs_nil, Nat.succ_eq_add_one, Nat.zero_add, Nat.reduceAdd, cOp_is, cDo_is, cCond_is, cSeq_is, cBlock_is, cNorm_is, cRet_is, cExit_is, opX_ok, doX_ok, condX_true, condX_false, seqX_norm, seqX_exit, seqX_ret, blockX_norm, blockX_ret, blockX_exit, oMove_is, kV_is, slot_set, Nat.reduceLT, Nat.reduceEqDiff, if_true, if_false, reduceIte, cG_is, guardX_tt, guardX_tf, guardX_ft, guardX_ff, guardX_none, skipC_is, oPick_is, pickR_true, pickR_false, hbx, oFieldAddr_is', fieldAR_is, oLoad1_is, loadR_is, l2, oLenS_is, V1.ilen, oCmp_is, cmpR_is, c1, oCall_is, vals_cons, vals_nil, aw, leave_ret, finish_1]
  have c1 : iGt (zs.length : Int) 100 = false := by rw [iGt_is]; simp; omega
  by_cases hl : l.length ≤ 500
  case neg =>
    have c2 : iGt (l.length : Int) 500 = true := by rw [iGt_is]; simp; omega
    refine ⟨h1, ?_, x1⟩
    unfold d6head
    simp only [setArgs_cons, setArgs_nil, Nat.succ_eq_add_one, Nat.zero_add, Nat.reduceAdd, cOp_is, cDo_is, cCond_is, cSeq_is, cBlock_is, cNorm_is, cRet_is, cExit_is, opX_ok, doX_ok, condX_true, condX_false, seqX_norm, seqX_exit, seqX_ret, blockX_norm, blockX_ret, blockX_exit, oMove_is, kV_is, slot_set, Nat.reduceLT, Nat.reduceEqDiff, if_true, if_false, reduceIte, cG_is, guardX_tt, guardX_tf, guardX_ft, guardX_ff, guardX_none, skipC_is, oPick_is, pickR_true, pickR_false, hbx, oFieldAddr_is', fieldAR_is, oLoad1_is, loadR_is, l2, oLenS_is, V1.ilen, oCmp_is, cmpR_is, c1, Bl, c2, oCall_is, vals_cons, vals_nil, aw, leave_ret, finish_1]
  have c2 : iGt (l.length : Int) 500 = false := by rw [iGt_is]; simp; omega
  have key : ∃ e1 g', d6head (call bodies (n + 5)) (setArgs e0 0 [mvV f t u, .int .u16 (cut : Int), v]) h = mB (call bodies (n + 5)) e1 g' ∧ h.Ext g' ∧ h1.Ext g' ∧ slotG 1 e1 = .int .u16 (cut : Int) ∧ slotG 3 e1 = .pointer (some ⟨h.next, 0, none⟩) := by
    rcases read_is (n := n + 1) x1.wf B1 hb (by omega) bk1 bk2 with ⟨f', t', zs', g1, w, q1, q2, q3, q4⟩ | ⟨q1, g1, q2, q3⟩
    · -- bytes that are read
      have x2 := x1.trans q3
      obtain ⟨_, _, ow⟩ := q4.one
      obtain ⟨g2, al2, st2, x3, y3, R2, nx2⟩ := cell3 x2 (a := .int .i64 f') (b := .int .i64 t') (c := w) (by show (bif oneCell w then true else false) = true; rw [ow]; rfl)
      have l3 : loadN 3 ⟨g1.next, 0, none⟩ g2 = .ok (mvV f' t' w) g2 := R2.loadN (by simp)
      obtain ⟨hr', hl'⟩ := readL_get hb q1
      obtain ⟨g3, c, k, q5, q6, _, _, q7⟩ := bytes_ok (n := n + 2) x3.wf (q4.ext x2.wf y3) hr'
      rw [← hl'] at q7
      have x4 := x3.trans q6
      have sb := sb_is (n := n + 4) q7.vals (B.ext W x4)
      have i0 : iEq 0 0 = true := rfl
      have i1 : iNe 0 0 = false := rfl
      have goal1 : ∃ e1, d6head (call bodies (n + 5)) (setArgs e0 0 [mvV f t u, .int .u16 (cut : Int), v]) h = cSeq mA mB (call bodies (n + 5)) e1 g2 ∧ slotG 1 e1 = .int .u16 (cut : Int) ∧ slotG 2 e1 = v ∧ slotG 3 e1 = .pointer (some ⟨h.next, 0, none⟩) ∧ slotG 7 e1 = .pointer (some ⟨g1.next, 0, none⟩) ∧ slotG 35 e1 = .bool true := by
        unfold d6head
        unfold mvV at q2 hbx ⊢
        simp only [setArgs_cons, setArgs_nil, Nat.succ_eq_add_one, Nat.zero_add, Nat.reduceAdd, cOp_is, cDo_is, cCond_is, opX_ok, doX_ok, condX_false, oMove_is, kV_is, slot_set, Nat.reduceLT, Nat.reduceEqDiff, if_true, if_false, reduceIte, cG_is, guardX_tt, guardX_tf, guardX_ft, guardX_ff, guardX_none, skipC_is, oPick_is, pickR_true, pickR_false, hbx, oFieldAddr_is', fieldAR_is, oLoad1_is, loadR_is, l2, oLenS_is, V1.ilen, oCmp_is, cmpR_is, c1, Bl, c2, oCall_is, vals_cons, vals_nil, q2, oExtract_is, extractR_0, extractR_1, al2, oStore_is, st2, i0]
        exact ⟨_, rfl, by simp only [slot_set, Nat.reduceLT, Nat.reduceEqDiff, if_true, if_false, reduceIte], by simp only [slot_set, Nat.reduceLT, Nat.reduceEqDiff, if_true, if_false, reduceIte], by simp only [slot_set, Nat.reduceLT, Nat.reduceEqDiff, if_true, if_false, reduceIte], by simp only [slot_set, Nat.reduceLT, Nat.reduceEqDiff, if_true, if_false, reduceIte], by simp only [slot_set, Nat.reduceLT, Nat.reduceEqDiff, if_true, if_false, reduceIte]⟩
      obtain ⟨e1, r1, s1, s2, s3, s7, s35⟩ := goal1
      have goal2 : ∃ e2, mA (call bodies (n + 5)) e1 g2 = .norm e2 g3 ∧ slotG 1 e2 = .int .u16 (cut : Int) ∧ slotG 3 e2 = .pointer (some ⟨h.next, 0, none⟩) := by
        unfold mA
        simp only [cOp_is, cDo_is, cCond_is, cSeq_is, cBlock_is, cNorm_is, cRet_is, cExit_is, opX_ok, doX_ok, condX_true, condX_false, seqX_norm, seqX_exit, seqX_ret, blockX_norm, blockX_ret, blockX_exit, oMove_is, kV_is, slot_set, Nat.reduceLT, Nat.reduceEqDiff, if_true, if_false, reduceIte, cG_is, guardX_tt, guardX_tf, guardX_ft, guardX_ff, guardX_none, skipC_is, oPick_is, pickR_true, pickR_false, s35, oLoadN_is, s7, loadsR_is, l3, oCall_is, vals_cons, vals_nil, q5, oExtract_is, extractR_0, extractR_1, oCmp_is, cmpR_is, i1, s2, sb, oNot_is, notR_is, Bool.not_true]
        exact ⟨_, rfl, by simp only [slot_set, Nat.reduceLT, Nat.reduceEqDiff, if_true, if_false, reduceIte]; exact s1, by simp only [slot_set, Nat.reduceLT, Nat.reduceEqDiff, if_true, if_false, reduceIte]; exact s3⟩
      obtain ⟨e2, r2, s1, s3⟩ := goal2
      refine ⟨e2, g3, ?_, x4, (q3.trans y3).trans q6, s1, s3⟩
      rw [r1, cSeq_is, r2, seqX_norm]
    · -- bytes that are none
      have x2 := x1.trans q3
      obtain ⟨g2, al2, st2, x3, y3, R2, nx2⟩ := cell3 x2 (a := .int .i64 0) (b := .int .i64 0) (c := .slice none 0 0) rfl
      have i0 : iEq 167 0 = false := rfl
      have goal1 : ∃ e1, d6head (call bodies (n + 5)) (setArgs e0 0 [mvV f t u, .int .u16 (cut : Int), v]) h = cSeq mA mB (call bodies (n + 5)) e1 g2 ∧ slotG 1 e1 = .int .u16 (cut : Int) ∧ slotG 3 e1 = .pointer (some ⟨h.next, 0, none⟩) ∧ slotG 35 e1 = .bool false := by
        unfold d6head
        unfold noMv at q2
        unfold mvV at hbx ⊢
        simp only [setArgs_cons, setArgs_nil, Nat.succ_eq_add_one, Nat.zero_add, Nat.reduceAdd, cOp_is, cDo_is, cCond_is, opX_ok, doX_ok, condX_false, oMove_is, kV_is, slot_set, Nat.reduceLT, Nat.reduceEqDiff, if_true, if_false, reduceIte, cG_is, guardX_tt, guardX_tf, guardX_ft, guardX_ff, guardX_none, skipC_is, oPick_is, pickR_true, pickR_false, hbx, oFieldAddr_is', fieldAR_is, oLoad1_is, loadR_is, l2, oLenS_is, V1.ilen, oCmp_is, cmpR_is, c1, Bl, c2, oCall_is, vals_cons, vals_nil, q2, oExtract_is, extractR_0, extractR_1, al2, oStore_is, st2, i0]
        exact ⟨_, rfl, by simp only [slot_set, Nat.reduceLT, Nat.reduceEqDiff, if_true, if_false, reduceIte], by simp only [slot_set, Nat.reduceLT, Nat.reduceEqDiff, if_true, if_false, reduceIte], by simp only [slot_set, Nat.reduceLT, Nat.reduceEqDiff, if_true, if_false, reduceIte]⟩
      obtain ⟨e1, r1, s1, s3, s35⟩ := goal1
      have hA : mA (call bodies (n + 5)) e1 g2 = .norm e1 g2 := by
        unfold mA
        simp only [cCond_is, s35, condX_false, cNorm_is]
      refine ⟨e1, g2, ?_, x3, q3.trans y3, s1, s3⟩
      rw [r1, cSeq_is, hA, seqX_norm]
  obtain ⟨e1, g', r1, xg, yg, s1, s3⟩ := key
  obtain ⟨e', g'', w1, w2, w3⟩ := mB_is (n := n) W xg V hz (R.ext x1.wf yg) hcut s1 s3
  refine ⟨g'', ?_, w2⟩
  rw [r1, w1]
  simp only [leave_ret, finish_1, w3]
end Go.Proofs.Ytkafejncffinmaa
namespace Go.Proofs.Ytkafejncffinmaa.moveBytes
open Go Go.ChangeShapes Go.WideShapes Go.ChangeAt Go.RowKit
set_option linter.unusedVariables false
theorem own : ownKnob Try.prog.godebug = none := by kernel_rfl
theorem laidOut : laidOutB Try.prog = true := by kernel_rfl
theorem cells3 : Try.prog.cellsOf 3 = 1 := by kernel_rfl
theorem cells5 : Try.prog.cellsOf 5 = 1 := by kernel_rfl
theorem cells29 : Try.prog.cellsOf 29 = 1 := by kernel_rfl
theorem u16_cell {P : Program} {W : World} {base t : Nat} {v : Value} (ht : P.underlying t = some (.int .u16)) (h : Cell.okWide P W .any base t v) : ∃ n : Int, v = .int .u16 n ∧ 0 ≤ n ∧ n ≤ 65535 := by
  unfold Cell.okWide at h
  rw [ht] at h
  have h : Cell.ok P W .any base t v := by cases v <;> exact h
  unfold Cell.ok at h
  rw [ht] at h
  split at h <;> first | (exact h.elim; done) | skip
  all_goals (rename_i e1 _; cases e1)
  exact ⟨_, by rw [h.1], h.2.1, h.2.2⟩
theorem u16_arg {P : Program} {W : World} {base t : Nat} {v : Value} (ht : P.underlying t = some (.int .u16)) (h : Value.okWide P W .any base t v) : ∃ n : Nat, v = .int .u16 (n : Int) ∧ n < 65536 := by
  unfold Value.okWide at h
  rw [ht] at h
  obtain ⟨z, rfl, h0, h1⟩ := u16_cell ht h
  obtain ⟨m, rfl⟩ := Int.eq_ofNat_of_zero_le h0
  exact ⟨m, rfl, by omega⟩
theorem bytes_of {l : List Int} (h : ∀ z ∈ l, (Lit.int .u8 z).wf = true) : ∃ m : List Nat, ints .u8 l = m.map bv ∧ ∀ x ∈ m, x < 256 := by
  refine ⟨l.map Int.toNat, ?_, fun x hx => ?_⟩
  · unfold ints
    rw [List.map_map]
    refine List.map_congr_left fun z hz => ?_
    have := bounds_u8 (h z hz)
    show Value.int .u8 z = .int .u8 ((z.toNat : Nat) : Int)
    rw [Int.toNat_of_nonneg this.1]
  · obtain ⟨z, hz, rfl⟩ := List.mem_map.1 hx
    have := bounds_u8 (h z hz)
    omega
set_option maxRecDepth 100000 in
theorem walk {H : Type} {enc : TypeId × Value → H} (x y z : Value) (w : World) {base : Nat} {d e : DataW H} {p q : List MemPlace} (hx : Value.okWide Try.prog w .any base 31 x) (hy : Value.okWide Try.prog w .any base 56 y) (hz : Value.okWide Try.prog w .any base 24 z)
    (tx : DataW.Trod enc Try.prog w 0 (fun _ => true) true 31 x d p) (tz : DataW.Trod enc Try.prog w 0 (fun _ => true) true 24 z e q) (fx : ∀ b off, MemPlace.cell b off ∈ p → w.frozen? ⟨b, off, none⟩ = false) (fz : ∀ b off, MemPlace.cell b off ∈ q → w.frozen? ⟨b, off, none⟩ = false) :
    Calls Try.prog 6 #[x, y, z] w fun e w' => e = .returned (.bool true) ∧ Below w.heap.size w w' := by
  obtain ⟨l, rfl, hl, hc⟩ := agg_arg Try.underlying31 (ts := [3, 3, 29]) (by kernel_rfl) (by kernel_rfl) hx
  match l, hl, hc with
  | [x0, x1, x2], _, hc =>
    obtain ⟨a, rfl⟩ := int_cell Try.underlying3 (hc 0 3 x0 rfl rfl)
    obtain ⟨b, rfl⟩ := int_cell Try.underlying3 (hc 1 3 x1 rfl rfl)
    have h2 := hc 2 29 x2 rfl rfl
    obtain ⟨fuel, hf⟩ := tx
    obtain ⟨xs, n, _, hxs, _, hn, hfs⟩ := DataW.trod_struct Try.underlying31 hf
    have hp : p = xs.flatMap (·.2) := congrArg Prod.snd hxs
    have h3 := hfs 2 _ rfl
    have h3 : DataW.trod enc Try.prog w 0 (fun _ => true) true n 29 [x2] = xs[2]? := h3
    have hn : xs.length = 3 := hn
    cases hx2 : xs[2]? with
    | none => rw [List.getElem?_eq_none_iff] at hx2; omega
    | some r =>
      rw [hx2] at h3
      obtain ⟨zs, hzs, I⟩ := ints_in Try.underlying29 Try.underlying3 cells3 h2 h3 (fun b off hm => fx b off (by rw [hp]; exact List.mem_flatMap.2 ⟨r, List.mem_of_getElem? hx2, hm⟩))
      obtain ⟨cut, rfl, hcut⟩ := u16_arg Try.underlying56 hy
      obtain ⟨fuel2, hf2⟩ := tz
      have hz' : Cell.okWide Try.prog w .any base 24 z := by
        unfold Value.okWide at hz
        rw [Try.underlying24] at hz
        exact hz
      have hf2 : DataW.trod enc Try.prog w 0 (fun _ => true) true fuel2 24 [z] = some (e, q) := by
        rcases slice_cell Try.underlying24 hz' with rfl | ⟨a, n, c, rfl, _⟩ <;> exact hf2
      obtain ⟨bs, hbs, J⟩ := ints_in Try.underlying24 Try.underlying5 cells5 hz' hf2 fz
      obtain ⟨m, hm, hb⟩ := bytes_of hbs
      obtain ⟨u, q0, Z0, i1, i2, i3⟩ := I.rel 0
      obtain ⟨v, q1, Z1, j1, j2, j3⟩ := J.rel 1
      have W0 : (inH [ints .i64 Z0, ints .u8 Z1]).Wf := inH_wf (by show 2 ≤ 256; omega)
      have V := i3 _ (inH_row (Ls := [ints .i64 Z0, ints .u8 Z1]) (by show 2 ≤ 256; omega) (i := 0) rfl)
      have B := j3 _ (inH_row (Ls := [ints .i64 Z0, ints .u8 Z1]) (by show 2 ≤ 256; omega) (i := 1) rfl)
      rw [hm] at B
      obtain ⟨h', hr, hx'⟩ := mbytes_is (n := 58) W0 (f := a) (t := b) V B hb hcut
      exact run_ext calls_ok hr hx' rfl (.cons (.agg (.cons (.int _ _) (.cons (.int _ _) (.cons (i2 (inPhi [q0, q1]) rfl) .nil)))) (.cons (.int _ _) (.cons (j2 (inPhi [q0, q1]) rfl) .nil))) (two_rel i1 j1 (fun φ => ints_rel φ _ _) (fun φ => ints_rel φ _ _))
set_option maxRecDepth 100000 in
theorem lifted (os : Os) (started : os.Started) (H : Type) (enc : TypeId × Value → H) :
    ReturnsInHanded {} Try.checked os 6 .any (Rows.moveBytesSpec.pre6 enc Try.prog Try.f6 Rows.moveBytesRow.domain false) (Rows.moveBytesSpec.post enc Try.prog Try.f6 false true false false) := by
  refine returnsInHanded_of_change (C := Try.checked) own started (by kernel_rfl) Try.func6
    (ChangeSpec.witness6 (enc := enc) (C := Try.checked) false ⟨#[], #[.agg #[.int .i64 0, .int .i64 0, .slice none 0 0], .int .u16 0, .slice none 0 0], []⟩ 8 (by kernel_rfl) (by kernel_rfl) (by kernel_rfl) (by kernel_rfl)) ?_
  intro W base args ds gs before hval0 hW hcnd _
  have hval : ∀ (j : Nat) t v, Try.f6.params[j]? = some t → args[j]? = some v → Value.okWide Try.prog W .any base t v := hval0
  have hW' := hW
  obtain ⟨p, q, hA0, hV, rfl, hfz, hnd⟩ := hW
  have hA : DataW.TrodAll enc Try.prog W 0 (fun _ => true) true Try.f6.params.toList args.toList ds p := hA0
  rw [Try.params6] at hA hval
  obtain ⟨v0, vs0, d0, ds0, p0, q0, hargs, rfl, rfl, h0, r0⟩ := trodAll_cons hA
  obtain ⟨v1, vs1, d1, ds1, p1, q1, rfl, rfl, rfl, h1, r1⟩ := trodAll_cons r0
  obtain ⟨v2, vs2, d2, ds2, p2, q2, rfl, rfl, rfl, h2, r2⟩ := trodAll_cons r1
  obtain ⟨rfl, rfl, rfl⟩ := trodAll_nil r2
  obtain rfl : args = #[v0, v1, v2] := by cases args; simp_all
  obtain ⟨rfl, rfl⟩ := trodVars_none hV
  clear hA0 hval0
  simp only [List.append_nil] at hW' hfz
  have hlt : ∀ x ∈ p0 ++ (p1 ++ p2), x.block < W.heap.size := fun x hx => hW'.lt x hx
  refine (walk v0 v1 v2 W (hval 0 31 v0 rfl rfl) (hval 1 56 v1 rfl rfl) (hval 2 24 v2 rfl rfl) h0 h2 (fun b off hm => hfz b off (List.mem_append_left _ hm)) (fun b off hm => hfz b off (List.mem_append_right _ (List.mem_append_right _ hm)))).mono fun e W' ⟨he, hb⟩ => ?_
  subst he
  refine ⟨_, rfl, post_of_below (pa := p0 ++ (p1 ++ p2)) (pv := []) hW' (fun _ _ _ => (trodAll_cons_mk (shut_bool Try.underlying4 _) trodAll_mk0)) (fun sp hsp => ?_) (fun _ _ => rfl) (by simp) hb (ok_one (by kernel_rfl) rfl (okWide_bool_mk Try.underlying4 _))⟩
  have := trodAll_cons_mk (WideElems.Trod_stays laidOut (by kernel_rfl) (of_decide_eq_true (by kernel_rfl)) h0 (fun x hx => hb.same (hlt x (List.mem_append_left _ hx))) (fun x hx => hsp x (List.mem_append_left _ hx))) (trodAll_cons_mk (WideElems.Trod_stays laidOut (by kernel_rfl) (of_decide_eq_true (by kernel_rfl)) h1 (fun x hx => hb.same (hlt x (List.mem_append_right _ (List.mem_append_left _ hx)))) (fun x hx => hsp x (List.mem_append_right _ (List.mem_append_left _ hx)))) (trodAll_cons_mk (WideElems.Trod_stays laidOut (by kernel_rfl) (of_decide_eq_true (by kernel_rfl)) h2 (fun x hx => hb.same (hlt x (List.mem_append_right _ (List.mem_append_right _ hx)))) (fun x hx => hsp x (List.mem_append_right _ (List.mem_append_right _ hx)))) (trodAll_mk0 (enc := enc) (P := Try.prog) (w := W') (base := 0) (spare := sp) (held := true))))
  rw [List.append_nil] at this
  exact this

theorem over : Rows.moveBytesRow.holds Try.pinned (OpenSpec.ofChange Rows.moveBytesSpec) :=
  OpenClaim.holds_of_wide 6 Try.f6 rfl rfl rfl rfl rfl rfl rfl ⟨rfl, rfl, rfl, rfl, rfl⟩ rfl rfl rfl rfl rfl (by kernel_rfl) Try.func6 (by kernel_rfl)
    (of_decide_eq_true (by kernel_rfl)) (by unfold Func.isWrapper; first | (rw [if_pos (by decide +kernel)]; kernel_rfl) | (rw [if_neg (by decide +kernel)]; exact ⟨rfl, rfl⟩))
    (fun os started H enc _ => lifted os started H enc)
theorem proved : Rows.MoveBytesSaid :=
  over
#print axioms proved
end Go.Proofs.Ytkafejncffinmaa.moveBytes

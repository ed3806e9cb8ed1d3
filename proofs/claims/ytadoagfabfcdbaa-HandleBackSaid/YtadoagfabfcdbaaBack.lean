/-
  'HandleBack', on the machine: what is made is read; unlike handles have unlike bytes; what is read makes them again.
  'HandleBack', on the machine: the whole.
-/
import Derived.Test.YtadoagfabfcdbaaBoth
set_option linter.unusedVariables false
set_option linter.unusedSimpArgs false
namespace Go.Proofs.Ytadoagfabfcdbaa
open Go
theorem ofNat_inj {a b : Nat} (ha : a < 256) (hb : b < 256) (h : UInt8.ofNat a = UInt8.ofNat b) : a = b := by
  have := congrArg UInt8.toNat h
  simp only [UInt8.toNat_ofNat'] at this
  omega
theorem map_inj : ∀ {l m : List Nat}, (∀ x ∈ l, x < 256) → (∀ x ∈ m, x < 256) → l.map UInt8.ofNat = m.map UInt8.ofNat → l = m
  | [], [], _, _, _ => rfl
  | [], _ :: _, _, _, h => by cases h
  | _ :: _, [], _, _, h => by cases h
  | a :: l, b :: m, hl, hm, h => by
    simp only [List.map_cons, List.cons.injEq] at h
    rw [ofNat_inj (hl a List.mem_cons_self) (hm b List.mem_cons_self) h.1, map_inj (fun x hx => hl x (List.mem_cons_of_mem _ hx)) (fun x hx => hm x (List.mem_cons_of_mem _ hx)) h.2]
theorem numL_lt (m : Nat) : ∀ k x, x ∈ numL m k → x < 256
  | 0, x, h => by cases h
  | k + 1, x, h => by
    rcases List.mem_cons.1 h with rfl | h
    · omega
    · exact numL_lt m k x h
theorem mk_lt (a b : Int) : ∀ x ∈ mkL a b, x < 256 := by
  unfold mkL
  intro x hx
  by_cases h : okH a b
  · rw [if_pos h] at hx
    rcases List.mem_append.1 hx with h | h
    · exact numL_lt _ _ _ h
    · exact numL_lt _ _ _ h
  · rw [if_neg h] at hx; cases hx
theorem back_is {p q : Nat} (hp : p ≤ 500) (hq : q ≤ 1099511627776) : num (byt (numL p 4 ++ numL q 8) 0) 4 = p ∧ num (byt (numL p 4 ++ numL q 8) 4) 8 = q := by
  simp only [numL, num, byt, Nat.zero_add, List.getD_cons_zero, List.getD_cons_succ, Nat.reduceAdd, List.cons_append, List.nil_append, Nat.reducePow, Nat.zero_mul, Nat.pow_zero, Nat.div_one]
  constructor <;> omega
theorem mk_back {a b : Int} (h : okH a b) : rdOk (mkL a b) ∧ (rdA (mkL a b) : Int) = a ∧ (rdB (mkL a b) : Int) = b ∧ rdE (mkL a b) = 0 := by
  obtain ⟨p, rfl⟩ := Int.eq_ofNat_of_zero_le (a := a) (by unfold okH at h; omega)
  obtain ⟨q, rfl⟩ := Int.eq_ofNat_of_zero_le (a := b) (by unfold okH at h; omega)
  have e : mkL p q = numL p 4 ++ numL q 8 := by unfold mkL; rw [if_pos h]; rfl
  have h' := h
  unfold okH at h'
  obtain ⟨e1, e2⟩ := back_is (p := p) (q := q) (by omega) (by omega)
  have hok : rdOk (mkL p q) := ⟨by rw [e]; simp [numL_length], by rw [e, e1, e2]; exact h⟩
  refine ⟨hok, ?_, ?_, ?_⟩
  · unfold rdA; rw [if_pos hok, e, e1]
  · unfold rdB; rw [if_pos hok, e, e2]
  · unfold rdE; rw [if_pos hok]
theorem mk_inj {a b c d : Int} (h : okH a b) (k : okH c d) (e : (mkL a b).map UInt8.ofNat = (mkL c d).map UInt8.ofNat) : a = c ∧ b = d := by
  have e := map_inj (mk_lt a b) (mk_lt c d) e
  obtain ⟨_, h1, h2, _⟩ := mk_back h
  obtain ⟨_, k1, k2, _⟩ := mk_back k
  exact ⟨by rw [← h1, ← k1, e], by rw [← h2, ← k2, e]⟩
theorem rd_back {l : List Nat} (hb : ∀ x ∈ l, x < 256) (h : rdOk l) : okH (rdA l) (rdB l) ∧ mkL (rdA l) (rdB l) = l := by
  have h2 := h.2
  have e1 : rdA l = num (byt l 0) 4 := if_pos h
  have e2 : rdB l = num (byt l 4) 8 := if_pos h
  rw [e1, e2]
  refine ⟨h2, ?_⟩
  unfold mkL
  rw [if_pos h2]
  exact bytes_back h.1 hb
theorem same_of_bl {h g : Hp} {w : Value} {m : List Nat} (hB : h.Bytes w m) (hbl : g.bl = h.bl) : g.Bytes w m := by
  rcases hB with h1 | ⟨b, off, c, el, L, h1, h2, h3⟩
  · exact .inl h1
  · exact .inr ⟨b, off, c, el, L, h1, h2.same hbl, h3⟩
/-- the last part: bytes are read, and made again -/
noncomputable def tailC : C := (cOp (slotT 69) (oCall 8 [(slotG 2)])
(cOp (slotT 70) (oExtract 0 (slotG 69))
(cOp (slotT 71) (oExtract 1 (slotG 69))
(cOp (slotT 13) (oAlloc 2 zt23)
(cDo (oStore 2 (slotG 13) (slotG 70))
(cOp (slotT 14) (oMove (slotG 71))
(cOp (slotT 73) (oCmp iEq .i64 (slotG 14) (kV (.int .i64 0)))
(cCond (slotG 73)
(cOp (slotT 75) (oLoadN 2 (slotG 13))
(cOp (slotT 76) (oCall 6 [(slotG 75)])
(cOp (slotT 77) (oExtract 0 (slotG 76))
(cOp (slotT 78) (oExtract 1 (slotG 76))
(cOp (slotT 15) (oMove (slotG 77))
(cOp (slotT 16) (oMove (slotG 78))
(cOp (slotT 80) (oCmp iEq .i64 (slotG 16) (kV (.int .i64 0)))
(cG (slotG 80) true (slotT 82) (oMove (slotG 15))
(cG (slotG 80) true (slotT 83) (oMove (slotG 2))
(cG (slotG 80) true (slotT 84) (oCall 10 [(slotG 82), (slotG 83)])
(cOp (slotT 85) (oPick (slotG 80) (slotG 84) (kV (.bool false)))
(cG (slotG 85) true (slotT 87) (oCall 5 [])
(cOp (slotT 88) (oPick (slotG 85) (slotG 87) (kV (.bool false)))
(cOp (slotT 6) (oMove (slotG 88))
cRet))))))))))))))
(cOp (slotT 89) (oCall 5 [])
(cOp (slotT 6) (oMove (slotG 89))
cRet))))))))))
theorem tail_is {n : Nat} {h g : Hp} (x : h.Ext g) {v : Value} {l : List Nat} (B : g.Bytes v l) (hb : ∀ x ∈ l, x < 256) {e : Env} (s2 : slotG 2 e = v) : ∃ e' g', tailC (call bodies (n + 4)) e g = .ret e' g' ∧ h.Ext g' ∧ slotG 6 e' = .bool true := by
  obtain ⟨h1, c1, c2⟩ := readA_is (n := n + 2) x.wf B hb
  have x1 := x.trans c2
  have x5 := x1.push (.cells zt23 2 0)
  have y5 := (Hp.Ext.refl x1.wf).push (.cells zt23 2 0)
  have Q5 : (h1.push (.cells zt23 2 0)).Row h1.next 0 [.int .i64 0, .int .i64 0] := Hp.Row.alloc x1.wf zt23_is rfl
  have al5 := fun (e : Env) => oAlloc_is (F := call bodies (n + 4)) (e := e) (n := 2) (t := zt23) x1.wf
  have st5 := Q5.storeR (n := 2) (off := 0) x5.wf (v := hv (rdA l) (rdB l)) rfl (by simp [hv, cells_agg]) rfl
  have x6 := Q5.wr_ext x5 x1.next (off := 0) (vs := cellsOf (hv (rdA l) (rdB l))) (by simp [hv, cells_agg])
  have y6 := Q5.wr_ext y5 (Nat.le_refl _) (off := 0) (vs := cellsOf (hv (rdA l) (rdB l))) (by simp [hv, cells_agg])
  have Q6 := Q5.wr_self x5.wf (off := 0) (vs := cellsOf (hv (rdA l) (rdB l))) (by simp [hv, cells_agg])
  generalize hg6 : (h1.push (.cells zt23 2 0)).wr h1.next 0 (cellsOf (hv (rdA l) (rdB l))) = h6 at st5 x6 y6 Q6
  have Q6 : h6.Row h1.next 0 [.int .i64 (rdA l), .int .i64 (rdB l)] := Q6
  have l6 : loadN 2 ⟨h1.next, 0, none⟩ h6 = .ok (hv (rdA l) (rdB l)) _ := Q6.loadN (by simp)
  by_cases hok : rdOk l
  · have eE : rdE l = 0 := if_pos hok
    obtain ⟨k1, k2⟩ := rd_back hb hok
    obtain ⟨h7, v7, a1, a2, a3⟩ := make_is (n := n + 2) x6.wf (rdA l) (rdB l)
    have eM : mkE (rdA l) (rdB l) = 0 := if_pos k1
    rw [k2] at a3
    rw [eM] at a1
    rw [eE] at c1
    have x7 := x6.trans a2
    have cs := same_is (n := n + 3) a3 (B.ext x.wf ((c2.trans y6).trans a2))
    have ct : (l.map UInt8.ofNat == l.map UInt8.ofNat) = true := by simp
    rw [ct] at cs
    obtain ⟨h8, w1, w2⟩ := awake_is (n := n) x7.wf
    have z1 : iEq 0 0 = true := rfl
    have hrun : ∃ e', tailC (call bodies (n + 4)) e g = .ret e' h8 ∧ slotG 6 e' = .bool true := by
      unfold tailC
      simp only [cOp_is, cDo_is, cCond_is, cSeq_is, cBlock_is, cNorm_is, cRet_is, cExit_is, opX_ok, doX_ok, condX_true, condX_false, seqX_norm, seqX_exit, seqX_ret, blockX_norm, blockX_ret, blockX_exit, oMove_is, kV_is, slot_set, Nat.reduceLT, Nat.reduceEqDiff, if_true, if_false, reduceIte, cG_is, guardX_tt, guardX_tf, guardX_ft, guardX_ff, guardX_none, skipC_is, oPick_is, pickR_true, pickR_false, oCall_is, vals_cons, vals_nil, s2, c1, oExtract_is, extractR_0, extractR_1, al5, oStore_is, st5, oCmp_is, cmpR_is, z1, oLoadN_is, loadsR_is, l6, a1, cs, w1]
      exact ⟨_, rfl, by simp only [slot_set, Nat.reduceLT, Nat.reduceEqDiff, if_true, if_false, reduceIte]⟩
    obtain ⟨e', r1, r2⟩ := hrun
    exact ⟨e', h8, r1, x7.trans w2, r2⟩
  · have eE : rdE l = 170 := if_neg hok
    rw [eE] at c1
    obtain ⟨h8, w1, w2⟩ := awake_is (n := n) x6.wf
    have z1 : iEq 170 0 = false := rfl
    have hrun : ∃ e', tailC (call bodies (n + 4)) e g = .ret e' h8 ∧ slotG 6 e' = .bool true := by
      unfold tailC
      simp only [cOp_is, cDo_is, cCond_is, cSeq_is, cBlock_is, cNorm_is, cRet_is, cExit_is, opX_ok, doX_ok, condX_true, condX_false, seqX_norm, seqX_exit, seqX_ret, blockX_norm, blockX_ret, blockX_exit, oMove_is, kV_is, slot_set, Nat.reduceLT, Nat.reduceEqDiff, if_true, if_false, reduceIte, cG_is, guardX_tt, guardX_tf, guardX_ft, guardX_ff, guardX_none, skipC_is, oPick_is, pickR_true, pickR_false, oCall_is, vals_cons, vals_nil, s2, c1, oExtract_is, extractR_0, extractR_1, al5, oStore_is, st5, oCmp_is, cmpR_is, z1, w1]
      exact ⟨_, rfl, by simp only [slot_set, Nat.reduceLT, Nat.reduceEqDiff, if_true, if_false, reduceIte]⟩
    obtain ⟨e', r1, r2⟩ := hrun
    exact ⟨e', h8, r1, x6.trans w2, r2⟩
end Go.Proofs.Ytadoagfabfcdbaa
set_option linter.unusedVariables false
set_option linter.unusedSimpArgs false
namespace Go.Proofs.Ytadoagfabfcdbaa
open Go
theorem ok_in {a b : Int} (h : okH a b) : in64 a ∧ in64 b := by unfold okH at h; unfold in64; omega
noncomputable def midC : C := (cOp (slotT 54) (oCmp iEq .i64 (slotG 8) (kV (.int .i64 0)))
(cSeq (cCond (slotG 54)
(cOp (slotT 57) (oCall 8 [(slotG 7)])
(cOp (slotT 58) (oExtract 0 (slotG 57))
(cOp (slotT 59) (oExtract 1 (slotG 57))
(cOp (slotT 11) (oAlloc 2 zt23)
(cDo (oStore 2 (slotG 11) (slotG 58))
(cOp (slotT 12) (oMove (slotG 59))
(cOp (slotT 61) (oCmp iNe .i64 (slotG 12) (kV (.int .i64 0)))
(cG (slotG 61) false (slotT 63) (oLoadN 2 (slotG 11))
(cG (slotG 61) false (slotT 64) (oLoadN 2 (slotG 3))
(cG (slotG 61) false (slotT 65) (oEqC ⟨true, [.i .i64, .i .i64]⟩ true (slotG 63) (slotG 64))
(cOp (slotT 66) (oPick (slotG 61) (kV (.bool true)) (slotG 65))
(cCond (slotG 66)
(cOp (slotT 6) (oMove (kV (.bool false)))
cRet)
cNorm))))))))))))
cNorm)
tailC))
theorem mid_is {n : Nat} {h g : Hp} (x : h.Ext g) {v u : Value} {l : List Nat} {a b : Int} {A : Nat} (B : g.Bytes v l) (hb : ∀ x ∈ l, x < 256) (U : g.Bytes u (mkL a b)) (R : g.Row A 0 [.int .i64 a, .int .i64 b]) {e : Env} (s2 : slotG 2 e = v) (s8 : slotG 8 e = .int .i64 (mkE a b)) (s7 : slotG 7 e = u) (s3 : slotG 3 e = .pointer (some ⟨A, 0, none⟩)) :
    ∃ e' g', midC (call bodies (n + 4)) e g = .ret e' g' ∧ h.Ext g' ∧ slotG 6 e' = .bool true := by
  by_cases hok : okH a b
  · obtain ⟨k1, k2, k3, k4⟩ := mk_back hok
    have eM : mkE a b = 0 := if_pos hok
    rw [eM] at s8
    obtain ⟨h1, c1, c2⟩ := readA_is (n := n + 2) x.wf U (mk_lt a b)
    rw [k2, k3, k4] at c1
    have x1 := x.trans c2
    have x5 := x1.push (.cells zt23 2 0)
    have y5 := (Hp.Ext.refl x1.wf).push (.cells zt23 2 0)
    have Q5 : (h1.push (.cells zt23 2 0)).Row h1.next 0 [.int .i64 0, .int .i64 0] := Hp.Row.alloc x1.wf zt23_is rfl
    have al5 := fun (e : Env) => oAlloc_is (F := call bodies (n + 4)) (e := e) (n := 2) (t := zt23) x1.wf
    have st5 := Q5.storeR (n := 2) (off := 0) x5.wf (v := hv a b) rfl (by simp [hv, cells_agg]) rfl
    have x6 := Q5.wr_ext x5 x1.next (off := 0) (vs := cellsOf (hv a b)) (by simp [hv, cells_agg])
    have y6 := Q5.wr_ext y5 (Nat.le_refl _) (off := 0) (vs := cellsOf (hv a b)) (by simp [hv, cells_agg])
    have Q6 := Q5.wr_self x5.wf (off := 0) (vs := cellsOf (hv a b)) (by simp [hv, cells_agg])
    generalize hg6 : (h1.push (.cells zt23 2 0)).wr h1.next 0 (cellsOf (hv a b)) = h6 at st5 x6 y6 Q6
    have Q6 : h6.Row h1.next 0 [.int .i64 a, .int .i64 b] := Q6
    have l6 : loadN 2 ⟨h1.next, 0, none⟩ h6 = .ok (hv a b) _ := Q6.loadN (by simp)
    have z6 := c2.trans y6
    have l7 : loadN 2 ⟨A, 0, none⟩ h6 = .ok (hv a b) _ := (R.ext x.wf z6).loadN (by simp)
    have ec := eqCR_is (h := h6) (neg := true) (ok_in hok).1 (ok_in hok).2 (ok_in hok).1 (ok_in hok).2
    have et : (true != decide (a = a ∧ b = b)) = false := by simp
    rw [et] at ec
    have z1 : iEq 0 0 = true := rfl
    have z2 : iNe 0 0 = false := rfl
    have hrun : ∃ e1, midC (call bodies (n + 4)) e g = tailC (call bodies (n + 4)) e1 h6 ∧ slotG 2 e1 = v := by
      unfold midC
      simp only [cOp_is, cDo_is, cCond_is, cSeq_is, cBlock_is, cNorm_is, cRet_is, cExit_is, opX_ok, doX_ok, condX_true, condX_false, seqX_norm, seqX_exit, seqX_ret, blockX_norm, blockX_ret, blockX_exit, oMove_is, kV_is, slot_set, Nat.reduceLT, Nat.reduceEqDiff, if_true, if_false, reduceIte, cG_is, guardX_tt, guardX_tf, guardX_ft, guardX_ff, guardX_none, skipC_is, oPick_is, pickR_true, pickR_false, s8, oCmp_is, cmpR_is, z1, oCall_is, vals_cons, vals_nil, s7, c1, oExtract_is, extractR_0, extractR_1, al5, oStore_is, st5, z2, oLoadN_is, loadsR_is, l6, s3, l7, oEqC_is, ec]
      exact ⟨_, rfl, by simp only [slot_set, Nat.reduceLT, Nat.reduceEqDiff, if_true, if_false, reduceIte]; exact s2⟩
    obtain ⟨e1, r1, r2⟩ := hrun
    rw [r1]
    exact tail_is x6 (B.ext x.wf z6) hb r2
  · have eM : mkE a b = 170 := if_neg hok
    rw [eM] at s8
    have z1 : iEq 170 0 = false := rfl
    have hrun : ∃ e1, midC (call bodies (n + 4)) e g = tailC (call bodies (n + 4)) e1 g ∧ slotG 2 e1 = v := by
      unfold midC
      simp only [cOp_is, cDo_is, cCond_is, cSeq_is, cBlock_is, cNorm_is, cRet_is, cExit_is, opX_ok, doX_ok, condX_true, condX_false, seqX_norm, seqX_exit, seqX_ret, blockX_norm, blockX_ret, blockX_exit, oMove_is, kV_is, slot_set, Nat.reduceLT, Nat.reduceEqDiff, if_true, if_false, reduceIte, s8, oCmp_is, cmpR_is, z1]
      exact ⟨_, rfl, by simp only [slot_set, Nat.reduceLT, Nat.reduceEqDiff, if_true, if_false, reduceIte]; exact s2⟩
    obtain ⟨e1, r1, r2⟩ := hrun
    rw [r1]
    exact tail_is x B hb r2
noncomputable def regC : C := (cMark (cOp (slotT 32) (oCmp iEq .i64 (slotG 8) (kV (.int .i64 0)))
(cOp (slotT 33) (oLoadN 2 (slotG 3))
(cOp (slotT 34) (oQuiet .free (oCall 11 [(slotG 33)]))
(cOp (slotT 35) (oEq ty4.k true (slotG 32) (slotG 34))
(cG (slotG 35) false (slotT 37) (oMove (slotG 8))
(cG (slotG 35) false (slotT 38) (oCmp iEq .i64 (slotG 37) (kV (.int .i64 0)))
(cG (slotG 35) false (slotT 39) (oMove (slotG 38))
(cG (slotG 39) true (slotT 40) (oMove (slotG 10))
(cG (slotG 39) true (slotT 41) (oCmp iEq .i64 (slotG 40) (kV (.int .i64 0)))
(cG (slotG 35) false (slotT 42) (oPick (slotG 39) (slotG 41) (kV (.bool false)))
(cG (slotG 35) false (slotT 43) (oMove (slotG 42))
(cG (slotG 43) true (slotT 44) (oMove (slotG 7))
(cG (slotG 43) true (slotT 45) (oMove (slotG 9))
(cG (slotG 43) true (slotT 46) (oQuiet .weak (oCall 10 [(slotG 44), (slotG 45)]))
(cOld (slotG 3) (cChk (slotG 3) []
(cG (slotG 43) true (slotT 47) (oLoadN 2 (slotG 3))
(cOld (slotG 4) (cChk (slotG 4) []
(cG (slotG 43) true (slotT 48) (oLoadN 2 (slotG 4))
(cG (slotG 43) true (slotT 49) (oEqC ⟨true, [.i .i64, .i .i64]⟩ false (slotG 47) (slotG 48))
(cG (slotG 43) true (slotT 50) (oEq ty4.k true (slotG 46) (slotG 49))
(cG (slotG 35) false (slotT 51) (oPick (slotG 43) (slotG 50) (kV (.bool false)))
(cOp (slotT 52) (oPick (slotG 35) (kV (.bool true)) (slotG 51))
(cCond (slotG 52)
(cOp (slotT 6) (oMove (kV (.bool false)))
cRet)
midC))))))))))))))))))))))))))
theorem reg_is {n : Nat} {h g : Hp} (x : h.Ext g) {v u t : Value} {l : List Nat} {a b c d : Int} {A D : Nat} (ha : in64 a) (hb' : in64 b) (hc : in64 c) (hd : in64 d) (B : g.Bytes v l) (hb : ∀ x ∈ l, x < 256) (U : g.Bytes u (mkL a b)) (T : g.Bytes t (mkL c d))
    (R : g.Row A 0 [.int .i64 a, .int .i64 b]) (S : g.Row D 0 [.int .i64 c, .int .i64 d]) {e : Env} (s2 : slotG 2 e = v) (s8 : slotG 8 e = .int .i64 (mkE a b)) (s7 : slotG 7 e = u) (s3 : slotG 3 e = .pointer (some ⟨A, 0, none⟩)) (s10 : slotG 10 e = .int .i64 (mkE c d)) (s9 : slotG 9 e = t) (s4 : slotG 4 e = .pointer (some ⟨D, 0, none⟩)) :
    ∃ e' g', regC (call bodies (n + 4)) e g = .ret e' g' ∧ h.Ext g' ∧ slotG 6 e' = .bool true := by
  have W := x.wf
  have hA := R.lt W
  have hD := S.lt W
  have Rm : g.marked.Row A 0 [.int .i64 a, .int .i64 b] := R.same rfl
  have lm : loadN 2 ⟨A, 0, none⟩ g.marked = .ok (hv a b) _ := Rm.loadN (by simp)
  have r1 := right_is (n := n + 3) W.marked.quiet a b
  have z1 : g.marked.quiet.Ext (g.marked.quiet.pushRow 0 [.int .i64 a, .int .i64 b]) := (Hp.Ext.refl W.marked.quiet).pushRow _ _
  have q1 : ∀ e, slotG 33 e = hv a b → oQuiet .free (oCall 11 [slotG 33]) (call bodies (n + 4)) e g.marked = .ok (.bool (decide (okH a b))) (g.marked.back (g.marked.quiet.pushRow 0 [.int .i64 a, .int .i64 b])) := fun e h5 => quiet_free (by simp only [oCall_is, vals_cons, vals_nil, h5]; exact r1)
  have y1 : g.Ext (g.marked.back (g.marked.quiet.pushRow 0 [.int .i64 a, .int .i64 b])) := (Hp.Ext.refl W).marked.trans z1.back
  have hmk : (g.marked.back (g.marked.quiet.pushRow 0 [.int .i64 a, .int .i64 b])).mark = g.next := rfl
  generalize hgm : g.marked.back (g.marked.quiet.pushRow 0 [.int .i64 a, .int .i64 b]) = m at q1 y1 hmk
  have W1 := y1.wf
  have x1 := x.trans y1
  have hmn : m.mark ≤ m.next := by have := y1.next; omega
  have e0 : iEq (mkE a b) 0 = decide (okH a b) := by
    unfold mkE
    by_cases h : okH a b
    · rw [if_pos h, decide_eq_true h]; rfl
    · rw [if_neg h, decide_eq_false h]; rfl
  have e0' : iEq (mkE c d) 0 = decide (okH c d) := by
    unfold mkE
    by_cases h : okH c d
    · rw [if_pos h, decide_eq_true h]; rfl
    · rw [if_neg h, decide_eq_false h]; rfl
  have e1 : (true != (decide (okH a b) == decide (okH a b))) = false := by simp
  by_cases hok : okH a b ∧ okH c d
  · -- both are right: their bytes are the same just if they are
    obtain ⟨h1, h2⟩ := hok
    have t1 : decide (okH a b) = true := decide_eq_true h1
    have t2 : decide (okH c d) = true := decide_eq_true h2
    rw [t1] at e0 q1 e1
    rw [t2] at e0'
    have cs := same_is (n := n + 3) (same_of_bl (U.ext W y1) (g := m.quiet) rfl) (same_of_bl (T.ext W y1) (g := m.quiet) rfl)
    have y2 : m.quiet.Ext m.quiet := .refl W1.quiet
    have q2 : ∀ e, slotG 44 e = u → slotG 45 e = t → oQuiet .weak (oCall 10 [slotG 44, slotG 45]) (call bodies (n + 4)) e m = .ok (.bool ((mkL a b).map UInt8.ofNat == (mkL c d).map UInt8.ofNat)) (m.back m.quiet) := fun e h5 h7 => quiet_is (by simp only [oCall_is, vals_cons, vals_nil, h5, h7]; exact cs) y2 hmn
    have y3 : m.Ext (m.back m.quiet) := y2.back
    have hmk2 : (m.back m.quiet).mark = g.next := hmk
    generalize hgm2 : m.back m.quiet = m2 at q2 y3 hmk2
    have y4 := y1.trans y3
    have l3 : loadN 2 ⟨A, 0, none⟩ m2 = .ok (hv a b) _ := (R.ext W y4).loadN (by simp)
    have l4 : loadN 2 ⟨D, 0, none⟩ m2 = .ok (hv c d) _ := (S.ext W y4).loadN (by simp)
    have o3 : A < m2.mark := by omega
    have o4 : D < m2.mark := by omega
    have ec := eqCR_is (h := m2) (neg := false) ha hb' hc hd
    have et : (true != (((mkL a b).map UInt8.ofNat == (mkL c d).map UInt8.ofNat) == (false != decide (a = c ∧ b = d)))) = false := by
      by_cases he : a = c ∧ b = d
      · obtain ⟨rfl, rfl⟩ := he; simp
      · have : ((mkL a b).map UInt8.ofNat == (mkL c d).map UInt8.ofNat) = false := by
          cases hq : ((mkL a b).map UInt8.ofNat == (mkL c d).map UInt8.ofNat) with
          | false => rfl
          | true => exact absurd (mk_inj h1 h2 (eq_of_beq hq)) he
        rw [this, decide_eq_false he]; rfl
    have hrun : ∃ e1, regC (call bodies (n + 4)) e g = midC (call bodies (n + 4)) e1 m2 ∧ slotG 2 e1 = v ∧ slotG 8 e1 = .int .i64 (mkE a b) ∧ slotG 7 e1 = u ∧ slotG 3 e1 = .pointer (some ⟨A, 0, none⟩) := by
      unfold regC
      simp only [cOp_is, cDo_is, cCond_is, cSeq_is, cBlock_is, cNorm_is, cRet_is, cExit_is, opX_ok, doX_ok, condX_true, condX_false, seqX_norm, seqX_exit, seqX_ret, blockX_norm, blockX_ret, blockX_exit, oMove_is, kV_is, slot_set, Nat.reduceLT, Nat.reduceEqDiff, if_true, if_false, reduceIte, cG_is, guardX_tt, guardX_tf, guardX_ft, guardX_ff, guardX_none, skipC_is, oPick_is, pickR_true, pickR_false, marked_is, s8, oCmp_is, cmpR_is, e0, s3, oLoadN_is, loadsR_is, lm, q1, oEq_is, eqBR_is, e1, s10, e0', s7, s9, q2, cOld_is, oldX_ptr o3, oldX_ptr o4, cChk_nil, l3, s4, l4, oEqC_is, ec, et]
      exact ⟨_, rfl, by simp only [slot_set, Nat.reduceLT, Nat.reduceEqDiff, if_true, if_false, reduceIte]; exact s2, by simp only [slot_set, Nat.reduceLT, Nat.reduceEqDiff, if_true, if_false, reduceIte]; exact s8, by simp only [slot_set, Nat.reduceLT, Nat.reduceEqDiff, if_true, if_false, reduceIte]; exact s7, by simp only [slot_set, Nat.reduceLT, Nat.reduceEqDiff, if_true, if_false, reduceIte]; exact s3⟩
    obtain ⟨e', r1, r2, r3, r4, r5⟩ := hrun
    rw [r1]
    exact mid_is (x1.trans y3) (B.ext W y4) hb (U.ext W y4) (R.ext W y4) r2 r3 r4 r5
  · -- one is not: nothing is held against each other
    have hrun : ∃ e1, regC (call bodies (n + 4)) e g = midC (call bodies (n + 4)) e1 m ∧ slotG 2 e1 = v ∧ slotG 8 e1 = .int .i64 (mkE a b) ∧ slotG 7 e1 = u ∧ slotG 3 e1 = .pointer (some ⟨A, 0, none⟩) := by
      have o3 : A < m.mark := by omega
      have o4 : D < m.mark := by omega
      by_cases h1 : okH a b
      · have h2 : ¬ okH c d := fun h2 => hok ⟨h1, h2⟩
        rw [decide_eq_true h1] at e0 q1 e1
        rw [decide_eq_false h2] at e0'
        unfold regC
        simp only [cOp_is, cDo_is, cCond_is, cSeq_is, cBlock_is, cNorm_is, cRet_is, cExit_is, opX_ok, doX_ok, condX_true, condX_false, seqX_norm, seqX_exit, seqX_ret, blockX_norm, blockX_ret, blockX_exit, oMove_is, kV_is, slot_set, Nat.reduceLT, Nat.reduceEqDiff, if_true, if_false, reduceIte, cG_is, guardX_tt, guardX_tf, guardX_ft, guardX_ff, guardX_none, skipC_is, oPick_is, pickR_true, pickR_false, marked_is, s8, oCmp_is, cmpR_is, e0, s3, oLoadN_is, loadsR_is, lm, q1, oEq_is, eqBR_is, e1, s10, e0', s7, s9, cOld_is, oldX_ptr o3, oldX_ptr o4, cChk_nil, s4]
        exact ⟨_, rfl, by simp only [slot_set, Nat.reduceLT, Nat.reduceEqDiff, if_true, if_false, reduceIte]; exact s2, by simp only [slot_set, Nat.reduceLT, Nat.reduceEqDiff, if_true, if_false, reduceIte]; exact s8, by simp only [slot_set, Nat.reduceLT, Nat.reduceEqDiff, if_true, if_false, reduceIte]; exact s7, by simp only [slot_set, Nat.reduceLT, Nat.reduceEqDiff, if_true, if_false, reduceIte]; exact s3⟩
      · rw [decide_eq_false h1] at e0 q1 e1
        unfold regC
        simp only [cOp_is, cDo_is, cCond_is, cSeq_is, cBlock_is, cNorm_is, cRet_is, cExit_is, opX_ok, doX_ok, condX_true, condX_false, seqX_norm, seqX_exit, seqX_ret, blockX_norm, blockX_ret, blockX_exit, oMove_is, kV_is, slot_set, Nat.reduceLT, Nat.reduceEqDiff, if_true, if_false, reduceIte, cG_is, guardX_tt, guardX_tf, guardX_ft, guardX_ff, guardX_none, skipC_is, oPick_is, pickR_true, pickR_false, marked_is, s8, oCmp_is, cmpR_is, e0, s3, oLoadN_is, loadsR_is, lm, q1, oEq_is, eqBR_is, e1, s10, s7, s9, cOld_is, oldX_ptr o3, oldX_ptr o4, cChk_nil, s4]
        exact ⟨_, rfl, by simp only [slot_set, Nat.reduceLT, Nat.reduceEqDiff, if_true, if_false, reduceIte]; exact s2, by simp only [slot_set, Nat.reduceLT, Nat.reduceEqDiff, if_true, if_false, reduceIte]; exact s8, by simp only [slot_set, Nat.reduceLT, Nat.reduceEqDiff, if_true, if_false, reduceIte]; exact s7, by simp only [slot_set, Nat.reduceLT, Nat.reduceEqDiff, if_true, if_false, reduceIte]; exact s3⟩
    obtain ⟨e', r1, r2, r3, r4, r5⟩ := hrun
    rw [r1]
    exact mid_is x1 (B.ext W y1) hb (U.ext W y1) (R.ext W y1) r2 r3 r4 r5
theorem backs_is {n : Nat} {h : Hp} (W : h.Wf) {a b c d : Int} (ha : in64 a) (hb' : in64 b) (hc : in64 c) (hd : in64 d) {v : Value} {l : List Nat} (B : h.Bytes v l) (hb : ∀ x ∈ l, x < 256) : ∃ h', call bodies (n + 5) 4 [hv a b, hv c d, v] h = .ok (.bool true) h' ∧ h.Ext h' := by
  have x0 := (Hp.Ext.refl W).pushRow 0 [.int .i64 a, .int .i64 b]
  have R0 := Hp.Row.new W 0 [.int .i64 a, .int .i64 b]
  have bx0 : ∀ e : Env, slotG 0 e = hv a b → oBox (slotG 0) (call bodies (n + 4)) e h = .ok (.pointer (some ⟨h.next, 0, none⟩)) (h.pushRow 0 [.int .i64 a, .int .i64 b]) := fun e he => by rw [oBox_is, he, boxR_is W]; rfl
  generalize hg0 : h.pushRow 0 [.int .i64 a, .int .i64 b] = h0 at x0 R0 bx0
  have y1 := (Hp.Ext.refl x0.wf).pushRow 0 [.int .i64 c, .int .i64 d]
  have S1 := Hp.Row.new x0.wf 0 [.int .i64 c, .int .i64 d]
  have bx1 : ∀ e : Env, slotG 1 e = hv c d → oBox (slotG 1) (call bodies (n + 4)) e h0 = .ok (.pointer (some ⟨h0.next, 0, none⟩)) (h0.pushRow 0 [.int .i64 c, .int .i64 d]) := fun e he => by rw [oBox_is, he, boxR_is x0.wf]; rfl
  generalize hg1 : h0.pushRow 0 [.int .i64 c, .int .i64 d] = h1 at y1 S1 bx1
  have x1 := x0.trans y1
  have R1 := R0.ext x0.wf y1
  have B1 := B.ext W x1
  rw [call4 rfl]
  unfold d4
  have c0 : iGt (l.length : Int) 3000 = decide (3000 < l.length) := by rw [iGt_is]; congr 1; simp; omega
  by_cases hlen : 3000 < l.length
  · rw [decide_eq_true hlen] at c0
    obtain ⟨h2, a1, a2⟩ := awake_is (n := n) x1.wf
    refine ⟨h2, ?_, x1.trans a2⟩
    simp only [setArgs_cons, setArgs_nil, Nat.succ_eq_add_one, Nat.zero_add, Nat.reduceAdd, cOp_is, cDo_is, cCond_is, cSeq_is, cBlock_is, cNorm_is, cRet_is, cExit_is, opX_ok, doX_ok, condX_true, condX_false, seqX_norm, seqX_exit, seqX_ret, blockX_norm, blockX_ret, blockX_exit, oMove_is, kV_is, slot_set, Nat.reduceLT, Nat.reduceEqDiff, if_true, if_false, reduceIte, cG_is, guardX_tt, guardX_tf, guardX_ft, guardX_ff, guardX_none, skipC_is, oPick_is, pickR_true, pickR_false, bx0, bx1, oLenS_is, B1.len, oCmp_is, cmpR_is, c0, oCall_is, vals_nil, a1, leave_ret, finish_1]
  rw [decide_eq_false hlen] at c0
  have l1 : loadN 2 ⟨h.next, 0, none⟩ h1 = .ok (hv a b) _ := R1.loadN (by simp)
  obtain ⟨h2, v2, a1, a2, a3⟩ := make_is (n := n + 2) x1.wf a b
  have x2 := x1.trans a2
  have S2 := S1.ext x1.wf a2
  have l2 : loadN 2 ⟨h0.next, 0, none⟩ h2 = .ok (hv c d) _ := S2.loadN (by simp)
  obtain ⟨h3, v3, b1, b2, b3⟩ := make_is (n := n + 2) x2.wf c d
  have x3 := x2.trans b2
  have hreg := fun (e : Env) (s2 : slotG 2 e = v) s8 s7 s3 s10 s9 s4 => reg_is (n := n) x3 ha hb' hc hd (B.ext W x3) hb (a3.ext x2.wf b2) b3 ((R1.ext x1.wf a2).ext x2.wf b2) (S2.ext x2.wf b2) (e := e) s2 s8 s7 s3 s10 s9 s4
  unfold regC midC tailC at hreg
  simp only [setArgs_cons, setArgs_nil, Nat.succ_eq_add_one, Nat.zero_add, Nat.reduceAdd]
  simp only [cOp_is, opX_ok, cCond_is, condX_true, condX_false, oMove_is, kV_is, slot_set, Nat.reduceLT, Nat.reduceEqDiff, if_true, if_false, reduceIte, bx0, bx1, oLenS_is, B1.len, oCmp_is, cmpR_is, c0, oLoadN_is, loadsR_is, l1, oCall_is, vals_cons, vals_nil, a1, oExtract_is, extractR_0, extractR_1, l2, b1]
  generalize hE : (Env.set 10 (Value.int .i64 (mkE c d)) _ : Env) = E1
  obtain ⟨e', g', r1, r2, r3⟩ := hreg E1 (by rw [← hE]; simp only [slot_set, Nat.reduceLT, Nat.reduceEqDiff, if_true, if_false, reduceIte]) (by rw [← hE]; simp only [slot_set, Nat.reduceLT, Nat.reduceEqDiff, if_true, if_false, reduceIte]) (by rw [← hE]; simp only [slot_set, Nat.reduceLT, Nat.reduceEqDiff, if_true, if_false, reduceIte]) (by rw [← hE]; simp only [slot_set, Nat.reduceLT, Nat.reduceEqDiff, if_true, if_false, reduceIte]) (by rw [← hE]; simp only [slot_set, Nat.reduceLT, Nat.reduceEqDiff, if_true, if_false, reduceIte]) (by rw [← hE]; simp only [slot_set, Nat.reduceLT, Nat.reduceEqDiff, if_true, if_false, reduceIte]) (by rw [← hE]; simp only [slot_set, Nat.reduceLT, Nat.reduceEqDiff, if_true, if_false, reduceIte])
  refine ⟨g', ?_, r2⟩
  rw [r1, leave_ret, finish_1, r3]
end Go.Proofs.Ytadoagfabfcdbaa

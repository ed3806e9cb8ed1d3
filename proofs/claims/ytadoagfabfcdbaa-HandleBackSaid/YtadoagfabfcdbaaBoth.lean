/-
  Making and reading, all cases in one; the chapter's examples; handles that are held against each other.
  'HandleTells', on the machine: true for any handle and any bytes.
-/
import Derived.Test.YtadoagfabfcdbaaRead
set_option linter.unusedVariables false
set_option linter.unusedSimpArgs false
namespace Go.Proofs.Ytadoagfabfcdbaa
open Go
/-- a handle -/
def hv (a b : Int) : Value := .agg ⟨[.int .i64 a, .int .i64 b]⟩
/-- what is made of a handle, and its error -/
def mkL (a b : Int) : List Nat := if okH a b then numL a.toNat 4 ++ numL b.toNat 8 else []
def mkE (a b : Int) : Int := if okH a b then 0 else 170
theorem make_is {n : Nat} {h : Hp} (W : h.Wf) (a b : Int) : ∃ h' v, call bodies (n + 2) 6 [hv a b] h = .ok (.tuple ⟨[v, .int .i64 (mkE a b)]⟩) h' ∧ h.Ext h' ∧ h'.Bytes v (mkL a b) := by
  unfold mkL mkE
  by_cases hok : okH a b
  · obtain ⟨p, rfl⟩ := Int.eq_ofNat_of_zero_le (a := a) (by unfold okH at hok; omega)
    obtain ⟨q, rfl⟩ := Int.eq_ofNat_of_zero_le (a := b) (by unfold okH at hok; omega)
    rw [if_pos hok, if_pos hok]
    exact make_ok W hok
  · rw [if_neg hok, if_neg hok]
    obtain ⟨h', h1, h2⟩ := make_no (n := n) W hok
    exact ⟨h', _, h1, h2, .inl ⟨rfl, rfl⟩⟩
theorem make2_is {n : Nat} {h : Hp} (W : h.Wf) (a b : Int) : ∃ h' v, call bodies (n + 2) 7 [hv a b] h = .ok (.tuple ⟨[v, .int .i64 (mkE a b)]⟩) h' ∧ h.Ext h' ∧ h'.Bytes v (mkL a b) := by
  unfold mkL mkE
  by_cases hok : okH a b
  · obtain ⟨p, rfl⟩ := Int.eq_ofNat_of_zero_le (a := a) (by unfold okH at hok; omega)
    obtain ⟨q, rfl⟩ := Int.eq_ofNat_of_zero_le (a := b) (by unfold okH at hok; omega)
    rw [if_pos hok, if_pos hok]
    exact make2_ok W hok
  · rw [if_neg hok, if_neg hok]
    obtain ⟨h', h1, h2⟩ := make2_no (n := n) W hok
    exact ⟨h', _, h1, h2, .inl ⟨rfl, rfl⟩⟩
/-- what bytes are of: two numbers, and the error -/
def rdOk (l : List Nat) : Prop := l.length = 12 ∧ okH (num (byt l 0) 4 : Nat) (num (byt l 4) 8 : Nat)
instance (l : List Nat) : Decidable (rdOk l) := by unfold rdOk; infer_instance
def rdA (l : List Nat) : Nat := if rdOk l then num (byt l 0) 4 else 0
def rdB (l : List Nat) : Nat := if rdOk l then num (byt l 4) 8 else 0
def rdE (l : List Nat) : Int := if rdOk l then 0 else 170
theorem rd_eq (l : List Nat) (hl : l.length = 12) : (if okH (num (byt l 0) 4 : Nat) (num (byt l 4) 8 : Nat) then .tuple ⟨[.agg ⟨[.int .i64 (num (byt l 0) 4 : Nat), .int .i64 (num (byt l 4) 8 : Nat)]⟩, .int .i64 0]⟩ else bad : Value) = .tuple ⟨[hv (rdA l) (rdB l), .int .i64 (rdE l)]⟩ := by
  unfold rdA rdB rdE rdOk hv bad
  by_cases h : okH (num (byt l 0) 4 : Nat) (num (byt l 4) 8 : Nat)
  · simp only [if_pos h, hl, true_and]
  · simp only [if_neg h, hl, true_and]; rfl
theorem rd_ne (l : List Nat) (hl : l.length ≠ 12) : bad = .tuple ⟨[hv (rdA l) (rdB l), .int .i64 (rdE l)]⟩ := by
  have : ¬ rdOk l := fun h => hl h.1
  unfold rdA rdB rdE hv bad
  simp only [if_neg this]; rfl
theorem readA_is {n : Nat} {h : Hp} (W : h.Wf) {v : Value} {l : List Nat} (B : h.Bytes v l) (hb : ∀ x ∈ l, x < 256) : ∃ h', call bodies (n + 2) 8 [v] h = .ok (.tuple ⟨[hv (rdA l) (rdB l), .int .i64 (rdE l)]⟩) h' ∧ h.Ext h' := by
  by_cases hl : l.length = 12
  · rw [← rd_eq l hl]; exact read_is W B hl hb
  · rw [← rd_ne l hl]; exact read_len W B hl
theorem readB_is {n : Nat} {h : Hp} (W : h.Wf) {v : Value} {l : List Nat} (B : h.Bytes v l) (hb : ∀ x ∈ l, x < 256) : ∃ h', call bodies (n + 3) 9 [v] h = .ok (.tuple ⟨[hv (rdA l) (rdB l), .int .i64 (rdE l)]⟩) h' ∧ h.Ext h' := by
  by_cases hl : l.length = 12
  · rw [← rd_eq l hl]; exact read2_is W B hl hb
  · rw [← rd_ne l hl]; exact read2_len W B hl

theorem zeros12 : repL ty5.zero 12 = zs 12 := by kernel_rfl
theorem makeS_is {F : CallF} {e : Env} {h : Hp} (W : h.Wf) : oMake 1 ty5.zero (kV (.int .i64 12)) (kV (.int .i64 12)) F e h = .ok (.slice (some ⟨h.next, 0, none⟩) 12 12) (h.pushRow 0 (zs 12)) := by
  show newRow h 0 (repL ty5.zero 12) (slcNew 12 12) = _
  rw [zeros12, newRow_is W]; rfl
def exL : List Nat := [0, 0, 0, 3, 0, 0, 0, 0, 0, 0, 1, 2]
theorem fillE {e : Env} {k : List Value → R} : fillL (repL ty5.zero 12) e k [(0, 1, (kV (.int .u8 0))), (1, 1, (kV (.int .u8 0))), (2, 1, (kV (.int .u8 0))), (3, 1, (kV (.int .u8 3))), (4, 1, (kV (.int .u8 0))), (5, 1, (kV (.int .u8 0))), (6, 1, (kV (.int .u8 0))), (7, 1, (kV (.int .u8 0))), (8, 1, (kV (.int .u8 0))), (9, 1, (kV (.int .u8 0))), (10, 1, (kV (.int .u8 1))), (11, 1, (kV (.int .u8 2)))] = k (exL.map bv) := by kernel_rfl
theorem awake_is {n : Nat} {h : Hp} (W : h.Wf) : ∃ h', call bodies (n + 4) 5 [] h = .ok (.bool true) h' ∧ h.Ext h' := by
  obtain ⟨h1, v1, a1, a2, a3⟩ := make_is (n := n + 1) W 3 258
  have x3 := a2.pushRow 0 (zs 12)
  have Rz := Hp.Row.new a2.wf 0 (zs 12)
  have Bz : (h1.pushRow 0 (zs 12)).Bytes (.slice (some ⟨h1.next, 0, none⟩) 12 12) (List.replicate 12 0) := .inr ⟨_, 0, 12, 0, _, rfl, Rz, Nat.le_refl _, rfl⟩
  obtain ⟨h4, b1, b2⟩ := readA_is (n := n + 1) x3.wf Bz (by decide)
  have eA : rdA (List.replicate 12 0) = 0 := rfl
  have eB : rdB (List.replicate 12 0) = 0 := rfl
  have eE : rdE (List.replicate 12 0) = 170 := rfl
  rw [eA, eB, eE] at b1
  have x4 := x3.trans b2
  have x5 := x4.push (.cells zt23 2 0)
  have R5 : (h4.push (.cells zt23 2 0)).Row h4.next 0 [.int .i64 0, .int .i64 0] := Hp.Row.alloc x4.wf zt23_is rfl
  have st5 := R5.storeR (n := 2) (off := 0) x5.wf (v := hv ((0 : Nat) : Int) ((0 : Nat) : Int)) rfl (by simp [hv, cells_agg]) rfl
  have x6 := R5.wr_ext x5 x4.next (off := 0) (vs := cellsOf (hv ((0 : Nat) : Int) ((0 : Nat) : Int))) (by simp [hv, cells_agg])
  generalize hg6 : (h4.push (.cells zt23 2 0)).wr h4.next 0 (cellsOf (hv ((0 : Nat) : Int) ((0 : Nat) : Int))) = h6 at st5 x6
  have x7 := x6.pushRow 0 (exL.map bv)
  have B7 : (h6.pushRow 0 (exL.map bv)).Bytes (.slice (some ⟨h6.next, 0, none⟩) 12 12) exL := .inr ⟨_, 0, 12, 0, _, rfl, Hp.Row.new x6.wf 0 (exL.map bv), Nat.le_refl _, rfl⟩
  have eL : mkL 3 258 = exL := by decide
  have eM : mkE 3 258 = 0 := by decide
  rw [eM] at a1
  have xs : h1.Ext (h6.pushRow 0 (exL.map bv)) := by
    have y1 := (Hp.Ext.refl a2.wf).pushRow 0 (zs 12)
    have y2 := (y1.trans b2).push (.cells zt23 2 0)
    have y3 := R5.wr_ext y2 (y1.trans b2).next (off := 0) (vs := cellsOf (hv ((0 : Nat) : Int) ((0 : Nat) : Int))) (by simp [hv, cells_agg])
    rw [hg6] at y3
    exact y3.pushRow 0 (exL.map bv)
  have B1 : (h6.pushRow 0 (exL.map bv)).Bytes v1 exL := eL ▸ a3.ext a2.wf xs
  have cs := same_is (n := n + 2) B1 B7
  have ct : (exL.map UInt8.ofNat == exL.map UInt8.ofNat) = true := by simp
  rw [ct] at cs
  have hb0 : (.agg ⟨over (over [.int .i64 0, .int .i64 0] 0 [.int .i64 3]) 1 [.int .i64 258]⟩ : Value) = hv 3 258 := rfl
  refine ⟨_, ?_, x7⟩
  rw [call5 rfl]
  unfold d5
  have z1 : iEq 0 0 = true := rfl
  have z2 : iEq 170 170 = true := rfl
  have hm := fun (e : Env) => makeS_is (F := call bodies (n + 3)) (e := e) a2.wf
  have hal := fun (e : Env) => oAlloc_is (F := call bodies (n + 3)) (e := e) (n := 2) (t := zt23) x4.wf
  simp only [setArgs_cons, setArgs_nil, Nat.succ_eq_add_one, Nat.zero_add, Nat.reduceAdd, cOp_is, cDo_is, cCond_is, cSeq_is, cBlock_is, cNorm_is, cRet_is, cExit_is, opX_ok, doX_ok, condX_true, condX_false, seqX_norm, seqX_exit, seqX_ret, blockX_norm, blockX_ret, blockX_exit, oMove_is, kV_is, slot_set, Nat.reduceLT, Nat.reduceEqDiff, if_true, if_false, reduceIte, cG_is, guardX_tt, guardX_tf, guardX_ft, guardX_ff, guardX_none, skipC_is, oPick_is, pickR_true, pickR_false, oBuild_is, zero23, fillL_nil, fillL_cons, cells_int, List.length_cons, List.length_nil, Nat.reduceLeDiff, over_two0, over_two1]
  have hb1 : (.agg ⟨[.int .i64 3, .int .i64 258]⟩ : Value) = hv 3 258 := rfl
  simp only [hb1, cOp_is, cDo_is, cCond_is, cSeq_is, cBlock_is, cNorm_is, cRet_is, cExit_is, opX_ok, doX_ok, condX_true, condX_false, seqX_norm, seqX_exit, seqX_ret, blockX_norm, blockX_ret, blockX_exit, oMove_is, kV_is, slot_set, Nat.reduceLT, Nat.reduceEqDiff, if_true, if_false, reduceIte, cG_is, guardX_tt, guardX_tf, guardX_ft, guardX_ff, guardX_none, skipC_is, oPick_is, pickR_true, pickR_false, oCall_is, vals_cons, vals_nil, a1, oExtract_is, extractR_0, extractR_1, hm, b1, hal, oStore_is, st5, oCmp_is, cmpR_is, z1, z2, oBuildSlice_is, fillE, newRow_is x6.wf, slcNew, cs, leave_ret, finish_1]

theorem ty4k : ty4.k = .bool := by kernel_rfl
noncomputable def eqBR (neg : Bool) (a b : Value) (h : Hp) : R := match eqV .bool a b with
  | some r => okB (neg != r) h
  | none => .no
theorem oEq_is {F : CallF} {e : Env} {h : Hp} {x y : O} {neg : Bool} : oEq ty4.k neg x y F e h = eqBR neg (x e) (y e) h := by rw [ty4k]; rfl
theorem eqBR_is {h : Hp} {neg c d : Bool} : eqBR neg (.bool c) (.bool d) h = .ok (.bool (neg != (c == d))) h := okB_is
noncomputable def eqCR (neg : Bool) (a b : Value) (h : Hp) : R := match eqC ⟨true, [.i .i64, .i .i64]⟩ a b with
  | some r => okB (neg != r) h
  | none => .no
theorem oEqC_is {F : CallF} {e : Env} {h : Hp} {x y : O} {neg : Bool} : oEqC ⟨true, [.i .i64, .i .i64]⟩ neg x y F e h = eqCR neg (x e) (y e) h := rfl
def in64 (n : Int) : Prop := -9223372036854775808 ≤ n ∧ n ≤ 9223372036854775807
theorem inK_64 {n : Int} (h : in64 n) : inK .i64 n = true := by
  cases n with
  | ofNat m => exact nat_ble.2 (by have := h.2; show m ≤ 9223372036854775807; simp at this; omega)
  | negSucc m => exact nat_ble.2 (by have := h.1; show m ≤ 9223372036854775807; omega)
theorem fit2 {a b : Int} (ha : in64 a) (hb : in64 b) : fitK ⟨true, [.i .i64, .i .i64]⟩ (hv a b) = true := by
  show (match (match sameK .i64 .i64 with | true => inK .i64 a | false => false) with | true => (match (match sameK .i64 .i64 with | true => inK .i64 b | false => false) with | true => true | false => false) | false => false) = true
  rw [inK_64 ha, inK_64 hb]; rfl
theorem eqCR_is {h : Hp} {neg : Bool} {a b c d : Int} (ha : in64 a) (hb : in64 b) (hc : in64 c) (hd : in64 d) : eqCR neg (hv a b) (hv c d) h = .ok (.bool (neg != decide (a = c ∧ b = d))) h := by
  have e1 : eqC ⟨true, [.i .i64, .i .i64]⟩ (hv a b) (hv c d) = some (decide (a = c ∧ b = d)) := by
    unfold eqC keyEq
    simp only [fit2 ha hb, fit2 hc hd]
    show (match (match sameK .i64 .i64 with | true => some (iEq a c) | false => none) with | some true => (match (match sameK .i64 .i64 with | true => some (iEq b d) | false => none) with | some true => some true | some false => some false | none => none) | some false => some false | none => none) = _
    have hk : sameK .i64 .i64 = true := rfl
    simp only [hk, iEq_is]
    by_cases h1 : a = c
    · subst h1
      by_cases h2 : b = d
      · subst h2; simp
      · have : (b == d) = false := by simpa using h2
        simp [this, h2]
    · have : (a == c) = false := by simpa using h1
      simp [this, h1]
  unfold eqCR
  rw [e1]
  exact okB_is
end Go.Proofs.Ytadoagfabfcdbaa
set_option linter.unusedVariables false
set_option linter.unusedSimpArgs false
namespace Go.Proofs.Ytadoagfabfcdbaa
open Go
theorem rd_in (l : List Nat) : in64 (rdA l) ∧ in64 (rdB l) := by
  unfold rdA rdB in64
  by_cases h : rdOk l
  · simp only [if_pos h]
    have h2 := h.2
    unfold okH at h2
    omega
  · simp only [if_neg h]; omega
theorem tells_is {n : Nat} {h : Hp} (W : h.Wf) (a b : Int) {v : Value} {l : List Nat} (B : h.Bytes v l) (hb : ∀ x ∈ l, x < 256) : ∃ h', call bodies (n + 5) 3 [hv a b, v] h = .ok (.bool true) h' ∧ h.Ext h' := by
  have x1 := (Hp.Ext.refl W).pushRow 0 [.int .i64 a, .int .i64 b]
  have R1 := Hp.Row.new W 0 [.int .i64 a, .int .i64 b]
  have hn1 : (h.pushRow 0 [.int .i64 a, .int .i64 b]).next = h.next + 1 := rfl
  have hbx : ∀ e : Env, slotG 0 e = hv a b → oBox (slotG 0) (call bodies (n + 4)) e h = .ok (.pointer (some ⟨h.next, 0, none⟩)) (h.pushRow 0 [.int .i64 a, .int .i64 b]) := fun e he => by rw [oBox_is, he, boxR_is W]; rfl
  have B1 := B.ext W x1
  generalize hg1 : h.pushRow 0 [.int .i64 a, .int .i64 b] = h1 at x1 R1 B1 hbx hn1
  rw [call3 rfl]
  unfold d3
  have c0 : iGt (l.length : Int) 3000 = decide (3000 < l.length) := by rw [iGt_is]; congr 1; simp; omega
  by_cases hlen : 3000 < l.length
  · rw [decide_eq_true hlen] at c0
    obtain ⟨h2, a1, a2⟩ := awake_is (n := n) x1.wf
    refine ⟨h2, ?_, x1.trans a2⟩
    simp only [setArgs_cons, setArgs_nil, Nat.succ_eq_add_one, Nat.zero_add, Nat.reduceAdd, cOp_is, cDo_is, cCond_is, cSeq_is, cBlock_is, cNorm_is, cRet_is, cExit_is, opX_ok, doX_ok, condX_true, condX_false, seqX_norm, seqX_exit, seqX_ret, blockX_norm, blockX_ret, blockX_exit, oMove_is, kV_is, slot_set, Nat.reduceLT, Nat.reduceEqDiff, if_true, if_false, reduceIte, cG_is, guardX_tt, guardX_tf, guardX_ft, guardX_ff, guardX_none, skipC_is, oPick_is, pickR_true, pickR_false, hbx, oLenS_is, B1.len, oCmp_is, cmpR_is, c0, oCall_is, vals_nil, a1, leave_ret, finish_1]
  rw [decide_eq_false hlen] at c0
  have l1 : loadN 2 ⟨h.next, 0, none⟩ h1 = .ok (hv a b) _ := R1.loadN (by simp)
  obtain ⟨h2, v2, a1, a2, a3⟩ := make_is (n := n + 2) x1.wf a b
  have x2 := x1.trans a2
  have R2 := R1.ext x1.wf a2
  have l2 : loadN 2 ⟨h.next, 0, none⟩ h2 = .ok (hv a b) _ := R2.loadN (by simp)
  obtain ⟨h3, v3, b1, b2, b3⟩ := make2_is (n := n + 2) x2.wf a b
  have x3 := x2.trans b2
  have R3 := R2.ext x2.wf b2
  have S3 := a3.ext x2.wf b2
  obtain ⟨h4, c1, c2⟩ := readA_is (n := n + 2) x3.wf (B.ext W x3) hb
  have x4 := x3.trans c2
  have R4 := R3.ext x3.wf c2
  have S4 := S3.ext x3.wf c2
  have T4 := b3.ext x3.wf c2
  -- two cells for what has been read
  have x5 := x4.push (.cells zt23 2 0)
  have y5 := (Hp.Ext.refl x4.wf).push (.cells zt23 2 0)
  have Q5 : (h4.push (.cells zt23 2 0)).Row h4.next 0 [.int .i64 0, .int .i64 0] := Hp.Row.alloc x4.wf zt23_is rfl
  have al5 := fun (e : Env) => oAlloc_is (F := call bodies (n + 4)) (e := e) (n := 2) (t := zt23) x4.wf
  have st5 := Q5.storeR (n := 2) (off := 0) x5.wf (v := hv (rdA l) (rdB l)) rfl (by simp [hv, cells_agg]) rfl
  have x6 := Q5.wr_ext x5 x4.next (off := 0) (vs := cellsOf (hv (rdA l) (rdB l))) (by simp [hv, cells_agg])
  have y6 := Q5.wr_ext y5 (Nat.le_refl _) (off := 0) (vs := cellsOf (hv (rdA l) (rdB l))) (by simp [hv, cells_agg])
  have Q6 := Q5.wr_self x5.wf (off := 0) (vs := cellsOf (hv (rdA l) (rdB l))) (by simp [hv, cells_agg])
  generalize hg6 : (h4.push (.cells zt23 2 0)).wr h4.next 0 (cellsOf (hv (rdA l) (rdB l))) = h6 at st5 x6 y6 Q6
  have Q6 : h6.Row h4.next 0 [.int .i64 (rdA l), .int .i64 (rdB l)] := Q6
  have R6 := R4.ext x4.wf y6
  have S6 := S4.ext x4.wf y6
  have T6 := T4.ext x4.wf y6
  obtain ⟨h7, d1, d2⟩ := readB_is (n := n + 1) x6.wf (B.ext W x6) hb
  have x7 := x6.trans d2
  have R7 := R6.ext x6.wf d2
  have S7 := S6.ext x6.wf d2
  have T7 := T6.ext x6.wf d2
  have Q7 := Q6.ext x6.wf d2
  have x8 := x7.push (.cells zt23 2 0)
  have y8 := (Hp.Ext.refl x7.wf).push (.cells zt23 2 0)
  have P8 : (h7.push (.cells zt23 2 0)).Row h7.next 0 [.int .i64 0, .int .i64 0] := Hp.Row.alloc x7.wf zt23_is rfl
  have al8 := fun (e : Env) => oAlloc_is (F := call bodies (n + 4)) (e := e) (n := 2) (t := zt23) x7.wf
  have st8 := P8.storeR (n := 2) (off := 0) x8.wf (v := hv (rdA l) (rdB l)) rfl (by simp [hv, cells_agg]) rfl
  have x9 := P8.wr_ext x8 x7.next (off := 0) (vs := cellsOf (hv (rdA l) (rdB l))) (by simp [hv, cells_agg])
  have y9 := P8.wr_ext y8 (Nat.le_refl _) (off := 0) (vs := cellsOf (hv (rdA l) (rdB l))) (by simp [hv, cells_agg])
  have P9 := P8.wr_self x8.wf (off := 0) (vs := cellsOf (hv (rdA l) (rdB l))) (by simp [hv, cells_agg])
  generalize hg9 : (h7.push (.cells zt23 2 0)).wr h7.next 0 (cellsOf (hv (rdA l) (rdB l))) = h9 at st8 x9 y9 P9
  have P9 : h9.Row h7.next 0 [.int .i64 (rdA l), .int .i64 (rdB l)] := P9
  have R9 := R7.ext x7.wf y9
  have S9 := S7.ext x7.wf y9
  have T9 := T7.ext x7.wf y9
  have Q9 := Q7.ext x7.wf y9
  have hn9 : h.next < h9.next := by have := R9.lt x9.wf; exact this
  -- the region in any order
  have bq : ∀ {g : Hp} {w : Value} {m : List Nat}, h9.Bytes w m → g.bl = h9.bl → g.Bytes w m := fun {g w m} hB hbl => by
    rcases hB with h1 | ⟨b, off, c, el, L, h1, h2, h3⟩
    · exact .inl h1
    · exact .inr ⟨b, off, c, el, L, h1, h2.same hbl, h3⟩
  have cs := same_is (n := n + 3) (bq S9 (g := h9.marked.quiet) rfl) (bq T9 (g := h9.marked.quiet) rfl)
  have ct : ((mkL a b).map UInt8.ofNat == (mkL a b).map UInt8.ofNat) = true := by simp
  rw [ct] at cs
  have q1 : ∀ e, slotG 5 e = v2 → slotG 7 e = v3 → oQuiet .free (oCall 10 [slotG 5, slotG 7]) (call bodies (n + 4)) e h9.marked = .ok (.bool true) (h9.marked.back h9.marked.quiet) := fun e h5 h7 => quiet_free (by simp only [oCall_is, vals_cons, vals_nil, h5, h7]; exact cs)
  have xm : h9.Ext (h9.marked.back h9.marked.quiet) := ((Hp.Ext.refl x9.wf).marked).back2 ((Hp.Ext.refl x9.wf).marked.quiet)
  have hmk : (h9.marked.back h9.marked.quiet).mark = h9.next := rfl
  have hnx : (h9.marked.back h9.marked.quiet).next = h9.next := rfl
  generalize hgm : h9.marked.back h9.marked.quiet = m at q1 xm hmk hnx
  have xm' := x9.trans xm
  have Rm := R9.ext x9.wf xm
  have lm1 : loadN 2 ⟨h4.next, 0, none⟩ m = .ok (hv (rdA l) (rdB l)) _ := (Q9.ext x9.wf xm).loadN (by simp)
  have lm2 : loadN 2 ⟨h7.next, 0, none⟩ m = .ok (hv (rdA l) (rdB l)) _ := (P9.ext x9.wf xm).loadN (by simp)
  have lm3 : loadN 2 ⟨h.next, 0, none⟩ m = .ok (hv a b) _ := Rm.loadN (by simp)
  have ec := eqCR_is (h := m) (neg := false) (rd_in l).1 (rd_in l).2 (rd_in l).1 (rd_in l).2
  have et : (false != decide ((rdA l : Int) = rdA l ∧ (rdB l : Int) = rdB l)) = true := by simp
  rw [et] at ec
  have r1 := right_is (n := n + 3) xm'.wf.quiet a b
  have z1 : m.quiet.Ext (m.quiet.pushRow 0 [.int .i64 a, .int .i64 b]) := (Hp.Ext.refl xm'.wf.quiet).pushRow _ _
  have q2 : ∀ e, slotG 56 e = hv a b → oQuiet .weak (oCall 11 [slotG 56]) (call bodies (n + 4)) e m = .ok (.bool (decide (okH a b))) (m.back (m.quiet.pushRow 0 [.int .i64 a, .int .i64 b])) := fun e h5 => quiet_is (by simp only [oCall_is, vals_cons, vals_nil, h5]; exact r1) z1 (by omega)
  have x10 := z1.back
  have hmk2 : (m.back (m.quiet.pushRow 0 [.int .i64 a, .int .i64 b])).mark = h9.next := hmk
  generalize hgm2 : m.back (m.quiet.pushRow 0 [.int .i64 a, .int .i64 b]) = m2 at q2 x10 hmk2
  have x11 := xm'.trans x10
  have R11 := Rm.ext xm'.wf x10
  have lm4 : loadN 2 ⟨h.next, 0, none⟩ m2 = .ok (hv a b) _ := R11.loadN (by simp)
  have hold : h.next < m2.mark := by omega
  have r2 := right2_is (n := n + 3) x11.wf.quiet a b
  have z2 : m2.quiet.Ext (m2.quiet.pushRow 0 [.int .i64 a, .int .i64 b]) := (Hp.Ext.refl x11.wf.quiet).pushRow _ _
  have q3 : ∀ e, slotG 58 e = hv a b → oQuiet .free (oCall 12 [slotG 58]) (call bodies (n + 4)) e m2 = .ok (.bool (decide (okH a b))) (m2.back (m2.quiet.pushRow 0 [.int .i64 a, .int .i64 b])) := fun e h5 => quiet_free (by simp only [oCall_is, vals_cons, vals_nil, h5]; exact r2)
  have x12 := x11.trans z2.back
  generalize hgm3 : m2.back (m2.quiet.pushRow 0 [.int .i64 a, .int .i64 b]) = m3 at q3 x12
  obtain ⟨h13, w1, w2⟩ := awake_is (n := n) x12.wf.quiet
  have q4 : ∀ e, oQuiet .free (oCall 5 []) (call bodies (n + 4)) e m3 = .ok (.bool true) (m3.back h13) := fun e => quiet_free (by simp only [oCall_is, vals_nil]; exact w1)
  refine ⟨m3.back h13, ?_, x12.trans w2.back⟩
  have i1 : iEq (mkE a b) (mkE a b) = true := by rw [iEq_is]; simp
  have i2 : iEq (rdE l) (rdE l) = true := by rw [iEq_is]; simp
  have i3 : (false != (decide (okH a b) == decide (okH a b))) = true := by simp
  simp only [setArgs_cons, setArgs_nil, Nat.succ_eq_add_one, Nat.zero_add, Nat.reduceAdd, cOp_is, cDo_is, cCond_is, cSeq_is, cBlock_is, cNorm_is, cRet_is, cExit_is, opX_ok, doX_ok, condX_true, condX_false, seqX_norm, seqX_exit, seqX_ret, blockX_norm, blockX_ret, blockX_exit, oMove_is, kV_is, slot_set, Nat.reduceLT, Nat.reduceEqDiff, if_true, if_false, reduceIte, cG_is, guardX_tt, guardX_tf, guardX_ft, guardX_ff, guardX_none, skipC_is, oPick_is, pickR_true, pickR_false, hbx, oLenS_is, B1.len, oCmp_is, cmpR_is, c0, oLoadN_is, loadsR_is, l1, oCall_is, vals_cons, vals_nil, a1, oExtract_is, extractR_0, extractR_1, l2, b1, c1, al5, oStore_is, st5, d1, al8, st8, marked_is, q1, i1, lm1, lm2, oEqC_is, ec, i2, lm3, q2, cOld_is, oldX_ptr hold, cChk_nil, lm4, q3, oEq_is, eqBR_is, i3, q4, leave_ret, finish_1]
end Go.Proofs.Ytadoagfabfcdbaa

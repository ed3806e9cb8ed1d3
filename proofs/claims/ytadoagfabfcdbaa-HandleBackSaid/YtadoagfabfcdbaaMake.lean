/-
  The functions of layer 20 (handle), the program's and the document's: what each gives, on the machine.
  The document's bytes of a number.
  Bytes that are held against each other; the document's bytes of a handle.
  The program's bytes of a handle.
  What the program makes of a handle.
-/
import Derived.Test.YtadoagfabfcdbaaSymC
import Derived.Test.YtadoagfabfcdbaaSymL
set_option linter.unusedVariables false
set_option linter.unusedSimpArgs false
namespace Go.Proofs.Ytadoagfabfcdbaa
open Go
/-- is a handle right? -/
def okH (a b : Int) : Prop := 1 ≤ a ∧ a ≤ 500 ∧ 1 ≤ b ∧ b ≤ 1099511627776
instance (a b : Int) : Decidable (okH a b) := by unfold okH; infer_instance
theorem right_is {n : Nat} {h : Hp} (W : h.Wf) (a b : Int) : call bodies (Nat.succ n) 11 [.agg ⟨[.int .i64 a, .int .i64 b]⟩] h = .ok (.bool (decide (okH a b))) (h.pushRow 0 [.int .i64 a, .int .i64 b]) := by
  have R := Hp.Row.new W 0 [.int .i64 a, .int .i64 b]
  have l0 : load1 ⟨h.next, 0, none⟩ (h.pushRow 0 [.int .i64 a, .int .i64 b]) = .ok (.int .i64 a) _ := R.load1 (by simp)
  have l1 : load1 ⟨h.next, 1, none⟩ (h.pushRow 0 [.int .i64 a, .int .i64 b]) = .ok (.int .i64 b) _ := R.load1 (by simp)
  rw [call11 rfl]
  unfold d11
  by_cases h1 : 1 ≤ a <;> by_cases h2 : a ≤ 500 <;> by_cases h3 : 1 ≤ b <;> by_cases h4 : b ≤ 1099511627776 <;>
  simp [okH, cOp_is, cG_is, cRet_is, opX_ok, setArgs_cons, setArgs_nil, oBox_is, boxR_is W, slot_set, cellsOf, oMove_is, kV_is, oFieldAddr_is', fieldAR_is, oLoad1_is, loadR_is, l0, l1, oCmp_is, cmpR_is, iGe_is, iLe_is, oPick_is, pickR_true, pickR_false, guardX_tt, guardX_ft, skipC_is, leave_ret, finish_1, h1, h2, h3, h4]
theorem right2_is {n : Nat} {h : Hp} (W : h.Wf) (a b : Int) : call bodies (Nat.succ n) 12 [.agg ⟨[.int .i64 a, .int .i64 b]⟩] h = .ok (.bool (decide (okH a b))) (h.pushRow 0 [.int .i64 a, .int .i64 b]) := by
  have R := Hp.Row.new W 0 [.int .i64 a, .int .i64 b]
  have l0 : load1 ⟨h.next, 0, none⟩ (h.pushRow 0 [.int .i64 a, .int .i64 b]) = .ok (.int .i64 a) _ := R.load1 (by simp)
  have l1 : load1 ⟨h.next, 1, none⟩ (h.pushRow 0 [.int .i64 a, .int .i64 b]) = .ok (.int .i64 b) _ := R.load1 (by simp)
  rw [call12 rfl]
  unfold d12
  by_cases h1 : 1 ≤ a <;> by_cases h2 : a ≤ 500 <;> by_cases h3 : 1 ≤ b <;> by_cases h4 : b ≤ 1099511627776 <;>
  simp [okH, cOp_is, cG_is, cRet_is, opX_ok, setArgs_cons, setArgs_nil, oBox_is, boxR_is W, slot_set, cellsOf, oMove_is, kV_is, oFieldAddr_is', fieldAR_is, oLoad1_is, loadR_is, l0, l1, oCmp_is, cmpR_is, iGe_is, iLe_is, oPick_is, pickR_true, pickR_false, guardX_tt, guardX_ft, skipC_is, leave_ret, finish_1, h1, h2, h3, h4]
end Go.Proofs.Ytadoagfabfcdbaa
set_option linter.unusedVariables false
set_option linter.unusedSimpArgs false
namespace Go.Proofs.Ytadoagfabfcdbaa
open Go
/-- the last bytes of a number, the lowest last -/
def numL (m : Nat) : Nat → List Nat
  | 0 => []
  | k + 1 => (m / 256 ^ k % 256) :: numL m k
theorem numL_length (m : Nat) : ∀ k, (numL m k).length = k
  | 0 => rfl
  | k + 1 => congrArg (· + 1) (numL_length m k)
theorem zero1 : repL ty5.zero 1 = [.int .u8 0] := by kernel_rfl
/-- what 'number' has made behind so many rounds -/
def Made (h g : Hp) (m i : Nat) (v : Value) : Prop := (i = 0 ∧ v = .slice none 0 0) ∨ ∃ b el, 0 < i ∧ v = .slice (some ⟨b, 0, none⟩) i i ∧ g.Row b el ((numL m i).map bv) ∧ h.next ≤ b ∧ (el = if i = 1 then 0 else 6)
theorem Made.bytes {h g : Hp} {m i : Nat} {v : Value} (M : Made h g m i v) : g.Bytes v (numL m i) := by
  rcases M with ⟨rfl, rfl⟩ | ⟨b, el, h0, rfl, h1, h2, h3⟩
  · exact .inl ⟨rfl, rfl⟩
  · refine .inr ⟨b, 0, i, el, _, by rw [numL_length], h1, by simp [numL_length], ?_⟩
    rw [List.drop_zero, List.take_of_length_le (by simp)]
noncomputable def bodyN : C := (cOp (slotT 9) (oCmp iLt .i64 (slotG 6) (slotG 1))
(cCond (slotG 9)
(cSeq (cBlock 1 (cOp (slotT 13) (oRem .i64 (slotG 0) (kV (.int .i64 256)))
(cOp (slotT 14) (oConv .u8 (slotG 13))
(cOp (slotT 15) (oBuildSlice 1 (repL ty5.zero 1) [(0, 1, (slotG 14))])
(cOp (slotT 17) (oAppend 1 1 5 (slotG 15) (slotG 5))
(cOp (slotT 5) (oMove (slotG 17))
(cOp (slotT 19) (oDiv .i64 (slotG 0) (kV (.int .i64 256)))
(cOp (slotT 0) (oMove (slotG 19))
cNorm))))))))
(cOp (slotT 11) (oAdd .i64 (topOf .i64) (slotG 6) (kV (.int .i64 1)))
(cOp (slotT 6) (oMove (slotG 11))
cNorm)))
(cExit 0)))
theorem number_round {F : CallF} {h g : Hp} {e : Env} {m k i : Nat} (W : g.Wf) (x : h.Ext g) (hk : k ≤ 8) (hm : m ≤ 9223372036854775807) (hi : i < k) (s6 : slotG 6 e = .int .i64 (i : Int)) (s1 : slotG 1 e = .int .i64 (k : Int))
    (s0 : slotG 0 e = .int .i64 ((m / 256 ^ i : Nat) : Int)) (M : Made h g m i (slotG 5 e)) :
    ∃ e' g', bodyN F e g = .norm e' g' ∧ h.Ext g' ∧ slotG 6 e' = .int .i64 ((i + 1 : Nat) : Int) ∧ slotG 1 e' = .int .i64 (k : Int) ∧ slotG 0 e' = .int .i64 ((m / 256 ^ (i + 1) : Nat) : Int) ∧ Made h g' m (i + 1) (slotG 5 e') := by
  have c1 : iLt (i : Int) (k : Int) = true := by rw [iLt_is]; simp [hi]
  have c2 : ((m / 256 ^ i : Nat) : Int).tmod 256 = ((m / 256 ^ i % 256 : Nat) : Int) := by
    generalize m / 256 ^ i = q
    rw [Int.tmod_eq_emod_of_nonneg (by omega)]; omega
  have c3 : ((m / 256 ^ i : Nat) : Int).tdiv 256 = ((m / 256 ^ (i + 1) : Nat) : Int) := by
    rw [Nat.pow_succ, ← Nat.div_div_eq_div_mul]
    generalize m / 256 ^ i = q
    rw [Int.tdiv_eq_ediv_of_nonneg (by omega)]; omega
  have c4 : IntKind.i64.wrap ((m / 256 ^ (i + 1) : Nat) : Int) = ((m / 256 ^ (i + 1) : Nat) : Int) := wrap_nat (Nat.le_trans (Nat.div_le_self _ _) hm)
  have c5 : IntKind.i64.wrap ((i : Int) + 1) = ((i + 1 : Nat) : Int) := wrap_nat (n := i + 1) (by omega)
  have c6 : IntKind.u8.wrap ((m / 256 ^ i % 256 : Nat) : Int) = ((m / 256 ^ i % 256 : Nat) : Int) := by rw [wrap_u8]; simp
  have hb : Value.int .u8 ((m / 256 ^ i % 256 : Nat) : Int) = bv (m / 256 ^ i % 256) := rfl
  have R := Hp.Row.new W 0 [bv (m / 256 ^ i % 256)]
  have W1 := pushRow_wf W (el := 0) (l := [bv (m / 256 ^ i % 256)])
  have x1 : g.Ext (g.pushRow 0 [bv (m / 256 ^ i % 256)]) := (Hp.Ext.refl W).pushRow _ _
  have B : (g.pushRow 0 [bv (m / 256 ^ i % 256)]).Bytes (slotG 5 e) (numL m i) := M.bytes.ext W x1
  have A : ∃ g' v', appR 1 1 5 (.slice (some ⟨g.next, 0, none⟩) 1 1) (slotG 5 e) (g.pushRow 0 [bv (m / 256 ^ i % 256)]) = .ok v' g' ∧ h.Ext g' ∧ Made h g' m (i + 1) v' := by
    rcases Nat.eq_zero_or_pos i with rfl | hp
    · have B0 : (g.pushRow 0 [bv (m / 256 ^ 0 % 256)]).Bytes (slotG 5 e) [] := B
      have hr := append_none (eb := 1) (en := 5) (n := 1) (c := 1) W1 R B0 (by omega) (by simp)
      refine ⟨_, _, hr, R.wr_ext (x.trans x1) x.next (by simp), .inr ⟨g.next, 0, by omega, rfl, ?_, x.next, rfl⟩⟩
      have := R.wr_self W1 (off := 1) (vs := []) (by simp)
      exact this
    · obtain ⟨g', h1, h2, h3, h4⟩ := append_grow (eb := 1) (en := 5) (c := 1) W1 R B (by simp [numL_length]; omega) (by simp [numL_length]; omega)
      have e1 : [bv (m / 256 ^ i % 256)].length + (numL m i).length = i + 1 := by simp [numL_length]; omega
      rw [e1] at h1
      refine ⟨g', _, h1, (x.trans x1).trans h2, .inr ⟨g.next + 1, 6, by omega, rfl, h3, by have := x.next; omega, by rw [if_neg (by omega)]⟩⟩
  obtain ⟨g', v', ha, hx, hM⟩ := A
  have hrun : ∃ e', bodyN F e g = .norm e' g' ∧ slotG 6 e' = .int .i64 ((i + 1 : Nat) : Int) ∧ slotG 1 e' = .int .i64 (k : Int) ∧ slotG 0 e' = .int .i64 ((m / 256 ^ (i + 1) : Nat) : Int) ∧ slotG 5 e' = v' := by
    unfold bodyN
    simp only [cOp_is, cCond_is, cSeq_is, cBlock_is, cNorm_is, opX_ok, condX_true, seqX_norm, blockX_norm, slot_set, oCmp_is, cmpR_is, oMove_is, kV_is, s6, s1, s0, c1, oRem_is, remR_is, oConv_is, convR_is, c2, c6, oBuildSlice_is, zero1, fillL_cons, fillL_nil, cells_bv, hb, List.length_cons, List.length_nil, over_0, newRow_is W, slcNew, oAppend_is, ha, oDiv_is, divR_is, c3, c4, oAdd_is, addR_is, c5, Nat.reduceLT, Nat.reduceEqDiff, Nat.reduceAdd, Nat.reduceLeDiff, if_true, if_false, reduceIte, ne_eq, Int.reduceEq, not_false_eq_true, Nat.zero_add, Nat.le_refl]
    exact ⟨_, rfl, by simp only [slot_set, Nat.reduceLT, Nat.reduceEqDiff, if_true, if_false, reduceIte], by simp only [slot_set, Nat.reduceLT, Nat.reduceEqDiff, if_true, if_false, reduceIte, s1], by simp only [slot_set, Nat.reduceLT, Nat.reduceEqDiff, if_true, if_false, reduceIte], by simp only [slot_set, Nat.reduceLT, Nat.reduceEqDiff, if_true, if_false, reduceIte]⟩
  obtain ⟨e', h1, h2, h3, h4, h5⟩ := hrun
  exact ⟨e', g', h1, hx, h2, h3, h4, h5 ▸ hM⟩
theorem number_loop {F : CallF} {h : Hp} {m k : Nat} (hk : k ≤ 8) (hm : m ≤ 9223372036854775807) {e : Env} {g : Hp} (x : h.Ext g) (s6 : slotG 6 e = .int .i64 ((0 : Nat) : Int)) (s1 : slotG 1 e = .int .i64 (k : Int)) (s0 : slotG 0 e = .int .i64 (m : Int)) (s5 : slotG 5 e = .slice none 0 0) :
    ∃ e' g', cLoop bodyN F e g = .exit 0 e' g' ∧ h.Ext g' ∧ Made h g' m k (slotG 5 e') := by
  refine loop_run (I := fun i e g => i ≤ k ∧ h.Ext g ∧ slotG 6 e = .int .i64 (i : Int) ∧ slotG 1 e = .int .i64 (k : Int) ∧ slotG 0 e = .int .i64 ((m / 256 ^ i : Nat) : Int) ∧ Made h g m i (slotG 5 e))
    (Q := fun x => ∃ e' g', x = .exit 0 e' g' ∧ h.Ext g' ∧ Made h g' m k (slotG 5 e')) k (by omega) (fun i e g ⟨hi, x, s6, s1, s0, M⟩ => ?_) ⟨Nat.zero_le _, x, s6, s1, by rw [s0, Nat.pow_zero, Nat.div_one], .inl ⟨rfl, s5⟩⟩
  rcases Nat.lt_or_ge i k with hlt | hge
  · left
    obtain ⟨e', g', h1, h2, h3, h4, h5, h6⟩ := number_round (F := F) x.wf x hk hm hlt s6 s1 s0 M
    exact ⟨hlt, e', g', h1, by omega, h2, h3, h4, h5, h6⟩
  · right
    have hik : i = k := by omega
    subst hik
    have c1 : iLt (i : Int) (i : Int) = false := by rw [iLt_is]; simp
    have hrun : bodyN F e g = .exit 0 (Env.set 9 (.bool false) e) g := by
      unfold bodyN
      simp only [cOp_is, cDo_is, cCond_is, cSeq_is, cBlock_is, cNorm_is, cRet_is, cExit_is, opX_ok, doX_ok, condX_true, condX_false, seqX_norm, seqX_exit, seqX_ret, blockX_norm, blockX_ret, blockX_exit, oMove_is, kV_is, slot_set, Nat.reduceLT, Nat.reduceEqDiff, if_true, if_false, reduceIte, oCmp_is, cmpR_is, s6, s1, c1]
    rw [hrun]
    exact ⟨rfl, _, _, rfl, x, by simp only [slot_set, Nat.reduceLT, Nat.reduceEqDiff, if_true, if_false, reduceIte]; exact M⟩
theorem number_is {n : Nat} {h : Hp} (W : h.Wf) {m k : Nat} (hk : k ≤ 8) (hm : m ≤ 9223372036854775807) :
    ∃ h' v, call bodies (Nat.succ n) 13 [.int .i64 (m : Int), .int .i64 (k : Int)] h = .ok v h' ∧ h.Ext h' ∧ Made h h' m k v := by
  obtain ⟨e', g', h1, h2, h3⟩ := number_loop (F := call bodies n) (h := h) hk hm (e := Env.set 6 (.int .i64 0) (Env.set 5 (.slice none 0 0) (Env.set 4 (.slice none 0 0) (Env.set 1 (.int .i64 (k : Int)) (Env.set 0 (.int .i64 (m : Int)) e0))))) (.refl W)
    (by simp only [slot_set, Nat.reduceLT, Nat.reduceEqDiff, if_true, if_false, reduceIte]; rfl) (by simp only [slot_set, Nat.reduceLT, Nat.reduceEqDiff, if_true, if_false, reduceIte]) (by simp only [slot_set, Nat.reduceLT, Nat.reduceEqDiff, if_true, if_false, reduceIte]) (by simp only [slot_set, Nat.reduceLT, Nat.reduceEqDiff, if_true, if_false, reduceIte])
  refine ⟨g', slotG 5 e', ?_, h2, h3⟩
  rw [call13 rfl]
  unfold d13
  unfold bodyN at h1
  simp only [setArgs_cons, setArgs_nil, Nat.succ_eq_add_one, Nat.zero_add, Nat.reduceAdd, cOp_is, cDo_is, cCond_is, cSeq_is, cBlock_is, cNorm_is, cRet_is, cExit_is, opX_ok, doX_ok, condX_true, condX_false, seqX_norm, seqX_exit, seqX_ret, blockX_norm, blockX_ret, blockX_exit, oMove_is, kV_is, slot_set, Nat.reduceLT, Nat.reduceEqDiff, if_true, if_false, reduceIte, h1, leave_ret, finish_1]
end Go.Proofs.Ytadoagfabfcdbaa
set_option linter.unusedVariables false
set_option linter.unusedSimpArgs false
namespace Go.Proofs.Ytadoagfabfcdbaa
open Go
theorem same_is {n : Nat} {h : Hp} {u v : Value} {l m : List Nat} (b : h.Bytes u l) (c : h.Bytes v m) : call bodies (Nat.succ n) 10 [u, v] h = .ok (.bool (l.map UInt8.ofNat == m.map UInt8.ofNat)) h := by
  rw [call10 rfl]
  unfold d10
  simp only [setArgs_cons, setArgs_nil, Nat.succ_eq_add_one, Nat.zero_add, Nat.reduceAdd, cOp_is, cDo_is, cCond_is, cSeq_is, cBlock_is, cNorm_is, cRet_is, cExit_is, opX_ok, doX_ok, condX_true, condX_false, seqX_norm, seqX_exit, seqX_ret, blockX_norm, blockX_ret, blockX_exit, oMove_is, kV_is, slot_set, Nat.reduceLT, Nat.reduceEqDiff, if_true, if_false, reduceIte, oToStr_is, b.str, c.str, oStr_is, eqSR_is, bEq_is, leave_ret, finish_1]
theorem notOk {a b : Int} (h : ¬ okH a b) : decide (okH a b) = false := by simp [h]
theorem isOk {a b : Int} (h : okH a b) : decide (okH a b) = true := by simp [h]
theorem make2_no {n : Nat} {h : Hp} (W : h.Wf) {a b : Int} (hok : ¬ okH a b) : ∃ h', call bodies (n + 2) 7 [.agg ⟨[.int .i64 a, .int .i64 b]⟩] h = .ok (.tuple ⟨[.slice none 0 0, .int .i64 170]⟩) h' ∧ h.Ext h' := by
  have R := Hp.Row.new W 0 [.int .i64 a, .int .i64 b]
  have W1 := pushRow_wf W (el := 0) (l := [.int .i64 a, .int .i64 b])
  have l0 : loadN 2 ⟨h.next, 0, none⟩ (h.pushRow 0 [.int .i64 a, .int .i64 b]) = .ok (.agg ⟨[.int .i64 a, .int .i64 b]⟩) _ := R.loadN (by simp)
  have c1 := right2_is (n := n) W1 a b
  rw [notOk hok] at c1
  refine ⟨_, ?_, ((Hp.Ext.refl W).pushRow 0 [.int .i64 a, .int .i64 b]).pushRow 0 [.int .i64 a, .int .i64 b]⟩
  rw [call7 rfl]
  unfold d7
  simp only [setArgs_cons, setArgs_nil, Nat.succ_eq_add_one, Nat.zero_add, Nat.reduceAdd, cOp_is, cDo_is, cCond_is, cSeq_is, cBlock_is, cNorm_is, cRet_is, cExit_is, opX_ok, doX_ok, condX_true, condX_false, seqX_norm, seqX_exit, seqX_ret, blockX_norm, blockX_ret, blockX_exit, oMove_is, kV_is, slot_set, Nat.reduceLT, Nat.reduceEqDiff, if_true, if_false, reduceIte, oBox_is, boxR_is W, cells_agg, oLoadN_is, loadsR_is, l0, oCall_is, vals_cons, vals_nil, c1, oNot_is, notR_is, Bool.not_false, leave_ret, finish_2]
theorem make2_ok {n : Nat} {h : Hp} (W : h.Wf) {p q : Nat} (hok : okH p q) : ∃ h' v, call bodies (n + 2) 7 [.agg ⟨[.int .i64 (p : Int), .int .i64 (q : Int)]⟩] h = .ok (.tuple ⟨[v, .int .i64 0]⟩) h' ∧ h.Ext h' ∧ h'.Bytes v (numL p 4 ++ numL q 8) := by
  have R := Hp.Row.new W 0 [.int .i64 (p : Int), .int .i64 (q : Int)]
  have W1 := pushRow_wf W (el := 0) (l := [.int .i64 (p : Int), .int .i64 (q : Int)])
  have l0 : loadN 2 ⟨h.next, 0, none⟩ (h.pushRow 0 [.int .i64 (p : Int), .int .i64 (q : Int)]) = .ok (.agg ⟨[.int .i64 (p : Int), .int .i64 (q : Int)]⟩) _ := R.loadN (by simp)
  have c1 := right2_is (n := n) W1 p q
  rw [isOk hok] at c1
  obtain ⟨o1, o2, o3, o4⟩ := hok
  have x2 := ((Hp.Ext.refl W).pushRow 0 [.int .i64 (p : Int), .int .i64 (q : Int)]).pushRow 0 [.int .i64 (p : Int), .int .i64 (q : Int)]
  have R2 := R.push W1 (.cells (ofL [.int .i64 (p : Int), .int .i64 (q : Int)]) 2 0)
  generalize hg : (h.pushRow 0 [.int .i64 (p : Int), .int .i64 (q : Int)]).pushRow 0 [.int .i64 (p : Int), .int .i64 (q : Int)] = h2 at c1 x2
  have R2 : h2.Row h.next 0 [.int .i64 (p : Int), .int .i64 (q : Int)] := hg ▸ R2
  have hnx : h2.next = h.next + 2 := by rw [← hg]; rfl
  have Rm : h2.marked.Row h.next 0 [.int .i64 (p : Int), .int .i64 (q : Int)] := R2.same rfl
  have xm := x2.marked
  have m0 : load1 ⟨h.next, 0, none⟩ h2.marked = .ok (.int .i64 (p : Int)) _ := Rm.load1 (by simp)
  obtain ⟨h3, v4, n1, n2, n3⟩ := number_is (n := n) xm.wf.quiet (m := p) (k := 4) (by omega) (by omega)
  have q1 : ∀ e, slotG 8 e = .int .i64 (p : Int) → oQuiet .weak (oCall 13 [slotG 8, kV (.int .i64 4)]) (call bodies (n + 1)) e h2.marked = .ok v4 (h2.marked.back h3) := fun e h8 => quiet_is (by simp only [oCall_is, vals_cons, vals_nil, kV_is, h8]; exact n1) n2 (Nat.le_refl _)
  have x3 : h2.marked.Ext (h2.marked.back h3) := n2.back
  have Rb : (h2.marked.back h3).Row h.next 0 [.int .i64 (p : Int), .int .i64 (q : Int)] := Rm.ext xm.wf x3
  have hmk : h.next < (h2.marked.back h3).mark := by show h.next < h2.next; omega
  have m1 : load1 ⟨h.next, 1, none⟩ (h2.marked.back h3) = .ok (.int .i64 (q : Int)) _ := Rb.load1 (by simp)
  obtain ⟨h4, v8, k1, k2, k3⟩ := number_is (n := n) x3.wf.quiet (m := q) (k := 8) (by omega) (by omega)
  have hmn : (h2.marked.back h3).mark ≤ (h2.marked.back h3).next := by show h2.next ≤ h3.next; exact n2.next
  have q2 : ∀ e, slotG 11 e = .int .i64 (q : Int) → oQuiet .free (oCall 13 [slotG 11, kV (.int .i64 8)]) (call bodies (n + 1)) e (h2.marked.back h3) = .ok v8 ((h2.marked.back h3).back h4) := fun e h8 => quiet_is (by simp only [oCall_is, vals_cons, vals_nil, kV_is, h8]; exact k1) k2 hmn
  have x4 : (h2.marked.back h3).Ext ((h2.marked.back h3).back h4) := k2.back
  have y4 := (xm.trans x3).trans x4
  rcases n3 with ⟨h0, _⟩ | ⟨b4, el4, _, rfl, r4, hb4, rfl⟩
  · cases h0
  have r4 : ((h2.marked.back h3).back h4).quiet.Row b4 6 ((numL p 4).map bv) := ((r4.same (h' := h2.marked.back h3) rfl).ext x3.wf x4).same rfl
  have B8 : ((h2.marked.back h3).back h4).quiet.Bytes v8 (numL q 8) := by
    have := k3.bytes
    rcases this with h1 | ⟨b, off, c, el, L, h1, h2, h3⟩
    · exact .inl h1
    · exact .inr ⟨b, off, c, el, L, h1, h2.same rfl, h3⟩
  have hb4' : h.next ≤ b4 := Nat.le_trans (by have := hb4; show h.next ≤ h2.next; omega) hb4
  obtain ⟨h5, a1, a2, a3, a4, _⟩ := append_grow1 (eb := 1) (en := 5) y4.wf.quiet r4 y4.quiet hb4' B8 (by rw [numL_length]; omega) (by simp only [List.length_map, numL_length]; omega)
  simp only [List.length_map, numL_length] at a1
  have q3 : ∀ e, slotG 9 e = .slice (some ⟨b4, 0, none⟩) 4 4 → slotG 12 e = v8 → oQuiet .free (oAppend 1 1 5 (slotG 9) (slotG 12)) (call bodies (n + 1)) e ((h2.marked.back h3).back h4) = .ok (.slice (some ⟨((h2.marked.back h3).back h4).quiet.next, 0, none⟩) 12 12) (((h2.marked.back h3).back h4).back h5) := fun e h9 h12 => quiet_free (by simp only [oAppend_is, h9, h12]; exact a1)
  refine ⟨_, _, ?_, y4.back2 a2, .inr ⟨_, 0, 12, 6, _, rfl, a3.same rfl, ?_, ?_⟩⟩
  rotate_left
  · simp [numL_length]
  · rw [List.drop_zero, List.take_of_length_le (by simp [numL_length]), List.map_append]
  rw [call7 rfl]
  unfold d7
  have e12 : (numL p 4 ++ numL q 8).length = 12 := by simp [numL_length]
  simp only [setArgs_cons, setArgs_nil, Nat.succ_eq_add_one, Nat.zero_add, Nat.reduceAdd, cOp_is, cDo_is, cCond_is, cSeq_is, cBlock_is, cNorm_is, cRet_is, cExit_is, opX_ok, doX_ok, condX_true, condX_false, seqX_norm, seqX_exit, seqX_ret, blockX_norm, blockX_ret, blockX_exit, oMove_is, kV_is, slot_set, Nat.reduceLT, Nat.reduceEqDiff, if_true, if_false, reduceIte, oBox_is, boxR_is W, cells_agg, oLoadN_is, loadsR_is, l0, oCall_is, vals_cons, vals_nil, c1, oNot_is, notR_is, Bool.not_true, marked_is, oFieldAddr_is', fieldAR_is, oLoad1_is, loadR_is, m0, m1, q1, q2, q3, cOld_is, oldX_ptr hmk, cChk_nil, leave_ret, finish_2, e12]
end Go.Proofs.Ytadoagfabfcdbaa
set_option linter.unusedVariables false
set_option linter.unusedSimpArgs false
namespace Go.Proofs.Ytadoagfabfcdbaa
open Go
theorem over_mid {A B : List Value} {x y : Value} {k : Nat} (hk : k = A.length) : over (A ++ y :: B) k [x] = A ++ x :: B := by
  subst hk
  unfold over
  rw [List.take_left, List.length_singleton, List.drop_length_add_append]; simp
def zs (n : Nat) : List Value := List.replicate n (bv 0)
theorem zs_succ (n : Nat) : zs (n + 1) = zs n ++ [bv 0] := List.replicate_succ'
/-- a row between others whose last bytes have been laid -/
def part (A : List Value) (k m i : Nat) (B : List Value) : List Value := A ++ (zs (k - i) ++ ((numL m i).map bv ++ B))
theorem part_next (A B : List Value) (k m i : Nat) (hi : i < k) : over (part A k m i B) (A.length + (k - 1 - i)) [bv (m / 256 ^ i % 256)] = part A k m (i + 1) B := by
  unfold part
  have e1 : k - i = (k - 1 - i) + 1 := by omega
  have e2 : k - (i + 1) = k - 1 - i := by omega
  rw [e1, e2, zs_succ]
  have e3 : A ++ (zs (k - 1 - i) ++ [bv 0] ++ ((numL m i).map bv ++ B)) = (A ++ zs (k - 1 - i)) ++ bv 0 :: ((numL m i).map bv ++ B) := by simp
  rw [e3, over_mid (by simp [zs])]
  simp [numL]
theorem part_length (A B : List Value) (k m i : Nat) (hi : i ≤ k) : (part A k m i B).length = A.length + k + B.length := by
  unfold part
  simp [zs, numL_length]; omega
theorem shr_is {h : Hp} {m i : Nat} (hi : i < 8) : shrR .i64 (.int .i64 (m : Int)) (.int .i64 ((8 * i : Nat) : Int)) h = .ok (.int .i64 ((m / 256 ^ i : Nat) : Int)) h := by
  rw [shrR_is]
  have e1 : min (8 * i) IntKind.i64.bits = 8 * i := Nat.min_eq_left (by show 8 * i ≤ 64; omega)
  rw [e1, Nat.pow_mul]
noncomputable def bodyM1 : C := (cOp (slotT 11) (oCmp iLt .i64 (slotG 10) (kV (.int .i64 4)))
(cCond (slotG 11)
(cSeq (cBlock 1 (cOp (slotT 5) (oMove (slotG 10))
(cOp (slotT 14) (oAri Int.sub .i64 (kV (.int .i64 3)) (slotG 5))
(cOp (slotT 15) (oFieldAddr 0 (slotG 1))
(cOp (slotT 16) (oLoad1 (slotG 15))
(cOp (slotT 18) (oAri Int.mul .i64 (kV (.int .i64 8)) (slotG 5))
(cOp (slotT 19) (oShr .i64 (slotG 16) (slotG 18))
(cOp (slotT 20) (oConv .u8 (slotG 19))
(cOp (slotT 21) (oIdxArr 12 1 (slotG 4) (slotG 14))
(cDo (oStore 1 (slotG 21) (slotG 20))
cNorm))))))))))
(cOp (slotT 22) (oAdd .i64 (topOf .i64) (slotG 10) (kV (.int .i64 1)))
(cOp (slotT 10) (oMove (slotG 22))
cNorm)))
(cExit 0)))
theorem make_round1 {F : CallF} {h g : Hp} {e : Env} {A B p q i : Nat} {P S : List Value} (x : h.Ext g) (hA : g.Row A 0 [.int .i64 (p : Int), .int .i64 (q : Int)]) (hB : g.Row B 0 (part P 4 p i S)) (hP : P.length = 0) (hS : S.length = 8) (hb : h.next ≤ B) (hAB : A ≠ B) (hi : i < 4)
    (s0 : slotG 10 e = .int .i64 (i : Int)) (s1 : slotG 1 e = .pointer (some ⟨A, 0, none⟩)) (s4 : slotG 4 e = .pointer (some ⟨B, 0, none⟩)) :
    ∃ e' g', bodyM1 F e g = .norm e' g' ∧ h.Ext g' ∧ g'.Row A 0 [.int .i64 (p : Int), .int .i64 (q : Int)] ∧ g'.Row B 0 (part P 4 p (i + 1) S) ∧ slotG 10 e' = .int .i64 ((i + 1 : Nat) : Int) ∧ slotG 1 e' = .pointer (some ⟨A, 0, none⟩) ∧ slotG 4 e' = .pointer (some ⟨B, 0, none⟩) := by
  have W := x.wf
  have c1 : iLt (i : Int) 4 = true := by rw [iLt_is]; simp; omega
  have c2 : IntKind.i64.wrap (Int.sub 3 (i : Int)) = ((3 - i : Nat) : Int) := by
    have e1 : Int.sub 3 (i : Int) = ((3 - i : Nat) : Int) := by show (3 : Int) - i = _; omega
    rw [e1]; exact wrap_nat (by omega)
  have c3 : IntKind.i64.wrap (Int.mul 8 (i : Int)) = ((8 * i : Nat) : Int) := by
    have e1 : Int.mul 8 (i : Int) = ((8 * i : Nat) : Int) := by show (8 : Int) * i = _; omega
    rw [e1]; exact wrap_nat (by omega)
  have c4 : shrR .i64 (.int .i64 (p : Int)) (.int .i64 ((8 * i : Nat) : Int)) g = _ := shr_is (by omega)
  have c5 : IntKind.u8.wrap ((p / 256 ^ i : Nat) : Int) = ((p / 256 ^ i % 256 : Nat) : Int) := wrap_u8 _
  have hb' : Value.int .u8 ((p / 256 ^ i % 256 : Nat) : Int) = bv (p / 256 ^ i % 256) := rfl
  have c6 : IntKind.i64.wrap ((i : Int) + 1) = ((i + 1 : Nat) : Int) := wrap_nat (n := i + 1) (by omega)
  have l0 : load1 ⟨A, 0, none⟩ g = .ok (.int .i64 (p : Int)) g := hA.load1 (by simp)
  have c7 : idxR 12 1 (.pointer (some ⟨B, 0, none⟩)) (.int .i64 ((3 - i : Nat) : Int)) g = .ok (.pointer (some ⟨B, 0 + (3 - i) * 1, none⟩)) g := idxR_is (by omega)
  have hl := part_length P S 4 p i (by omega)
  have ho : 0 + (3 - i) * 1 + (cellsOf (bv (p / 256 ^ i % 256))).length ≤ (part P 4 p i S).length := by rw [cells_bv, hl, hP, hS, List.length_singleton]; omega
  have c8 := hB.storeR (n := 1) W (v := bv (p / 256 ^ i % 256)) rfl ho rfl
  have r1 := hB.wr_self W ho
  have e1 : 0 + (3 - i) * 1 = P.length + (4 - 1 - i) := by omega
  have r1' : (g.wr B (0 + (3 - i) * 1) [bv (p / 256 ^ i % 256)]).Row B 0 (part P 4 p (i + 1) S) := by
    have e2 : over (part P 4 p i S) (0 + (3 - i) * 1) (cellsOf (bv (p / 256 ^ i % 256))) = part P 4 p (i + 1) S := by rw [cells_bv, e1]; exact part_next P S 4 p i hi
    rw [e2] at r1; exact r1
  have r2 := hB.wr_other W ho hA hAB
  have x2 := hB.wr_ext x hb ho
  rw [cells_bv] at r2 x2 c8
  have hrun : ∃ e', bodyM1 F e g = .norm e' (g.wr B (0 + (3 - i) * 1) [bv (p / 256 ^ i % 256)]) ∧ slotG 10 e' = .int .i64 ((i + 1 : Nat) : Int) ∧ slotG 1 e' = .pointer (some ⟨A, 0, none⟩) ∧ slotG 4 e' = .pointer (some ⟨B, 0, none⟩) := by
    unfold bodyM1
    simp only [cOp_is, cDo_is, cCond_is, cSeq_is, cBlock_is, cNorm_is, cRet_is, cExit_is, opX_ok, doX_ok, condX_true, condX_false, seqX_norm, seqX_exit, seqX_ret, blockX_norm, blockX_ret, blockX_exit, oMove_is, kV_is, slot_set, Nat.reduceLT, Nat.reduceEqDiff, if_true, if_false, reduceIte, oCmp_is, cmpR_is, s0, s1, s4, c1, oAri_is, ariR_is, c2, oFieldAddr_is', fieldAR_is, Nat.zero_add, oLoad1_is, loadR_is, l0, c3, oShr_is, c4, oConv_is, convR_is, c5, hb', oIdxArr_is, c7, oStore_is]
    simp only [Nat.zero_add] at c8
    simp only [cOp_is, cDo_is, cCond_is, cSeq_is, cBlock_is, cNorm_is, cRet_is, cExit_is, opX_ok, doX_ok, condX_true, condX_false, seqX_norm, seqX_exit, seqX_ret, blockX_norm, blockX_ret, blockX_exit, oMove_is, kV_is, slot_set, Nat.reduceLT, Nat.reduceEqDiff, if_true, if_false, reduceIte, c8, s0, s1, s4, oAdd_is, addR_is, c6]
    exact ⟨_, rfl, by simp only [slot_set, Nat.reduceLT, Nat.reduceEqDiff, if_true, if_false, reduceIte], by simp only [slot_set, Nat.reduceLT, Nat.reduceEqDiff, if_true, if_false, reduceIte, s1], by simp only [slot_set, Nat.reduceLT, Nat.reduceEqDiff, if_true, if_false, reduceIte, s4]⟩
  obtain ⟨e', h1, h2, h3, h4⟩ := hrun
  exact ⟨e', _, h1, x2, r2, r1', h2, h3, h4⟩
theorem make_loop1 {F : CallF} {h g : Hp} {e : Env} {A B p q : Nat} {P S : List Value} (x : h.Ext g) (hA : g.Row A 0 [.int .i64 (p : Int), .int .i64 (q : Int)]) (hB : g.Row B 0 (part P 4 p 0 S)) (hP : P.length = 0) (hS : S.length = 8) (hb : h.next ≤ B) (hAB : A ≠ B)
    (s0 : slotG 10 e = .int .i64 ((0 : Nat) : Int)) (s1 : slotG 1 e = .pointer (some ⟨A, 0, none⟩)) (s4 : slotG 4 e = .pointer (some ⟨B, 0, none⟩)) :
    ∃ e' g', cLoop bodyM1 F e g = .exit 0 e' g' ∧ h.Ext g' ∧ g'.Row A 0 [.int .i64 (p : Int), .int .i64 (q : Int)] ∧ g'.Row B 0 (part P 4 p 4 S) ∧ slotG 1 e' = .pointer (some ⟨A, 0, none⟩) ∧ slotG 4 e' = .pointer (some ⟨B, 0, none⟩) := by
  refine loop_run (I := fun i e g => i ≤ 4 ∧ h.Ext g ∧ g.Row A 0 [.int .i64 (p : Int), .int .i64 (q : Int)] ∧ g.Row B 0 (part P 4 p i S) ∧ slotG 10 e = .int .i64 (i : Int) ∧ slotG 1 e = .pointer (some ⟨A, 0, none⟩) ∧ slotG 4 e = .pointer (some ⟨B, 0, none⟩))
    (Q := fun x => ∃ e' g', x = .exit 0 e' g' ∧ h.Ext g' ∧ g'.Row A 0 [.int .i64 (p : Int), .int .i64 (q : Int)] ∧ g'.Row B 0 (part P 4 p 4 S) ∧ slotG 1 e' = .pointer (some ⟨A, 0, none⟩) ∧ slotG 4 e' = .pointer (some ⟨B, 0, none⟩)) 4 (by omega) (fun i e g ⟨hi, x, hA, hB, s0, s1, s4⟩ => ?_) ⟨Nat.zero_le _, x, hA, hB, s0, s1, s4⟩
  rcases Nat.lt_or_ge i 4 with hlt | hge
  · left
    obtain ⟨e', g', h1, h2, h3, h4, h5, h6, h7⟩ := make_round1 (F := F) x hA hB hP hS hb hAB hlt s0 s1 s4
    exact ⟨hlt, e', g', h1, by omega, h2, h3, h4, h5, h6, h7⟩
  · right
    have hik : i = 4 := by omega
    subst hik
    have c1 : iLt ((4 : Nat) : Int) 4 = false := by rw [iLt_is]; simp
    have hrun : bodyM1 F e g = .exit 0 (Env.set 11 (.bool false) e) g := by
      unfold bodyM1
      simp only [cOp_is, cDo_is, cCond_is, cSeq_is, cBlock_is, cNorm_is, cRet_is, cExit_is, opX_ok, doX_ok, condX_true, condX_false, seqX_norm, seqX_exit, seqX_ret, blockX_norm, blockX_ret, blockX_exit, oMove_is, kV_is, slot_set, Nat.reduceLT, Nat.reduceEqDiff, if_true, if_false, reduceIte, oCmp_is, cmpR_is, s0, c1]
    rw [hrun]
    exact ⟨rfl, _, _, rfl, x, hA, hB, by simp only [slot_set, Nat.reduceLT, Nat.reduceEqDiff, if_true, if_false, reduceIte]; exact s1, by simp only [slot_set, Nat.reduceLT, Nat.reduceEqDiff, if_true, if_false, reduceIte]; exact s4⟩
noncomputable def bodyM2 : C := (cOp (slotT 24) (oCmp iLt .i64 (slotG 23) (kV (.int .i64 8)))
(cCond (slotG 24)
(cSeq (cBlock 3 (cOp (slotT 6) (oMove (slotG 23))
(cOp (slotT 27) (oAri Int.sub .i64 (kV (.int .i64 11)) (slotG 6))
(cOp (slotT 28) (oFieldAddr 1 (slotG 1))
(cOp (slotT 29) (oLoad1 (slotG 28))
(cOp (slotT 31) (oAri Int.mul .i64 (kV (.int .i64 8)) (slotG 6))
(cOp (slotT 32) (oShr .i64 (slotG 29) (slotG 31))
(cOp (slotT 33) (oConv .u8 (slotG 32))
(cOp (slotT 34) (oIdxArr 12 1 (slotG 4) (slotG 27))
(cDo (oStore 1 (slotG 34) (slotG 33))
cNorm))))))))))
(cOp (slotT 35) (oAdd .i64 (topOf .i64) (slotG 23) (kV (.int .i64 1)))
(cOp (slotT 23) (oMove (slotG 35))
cNorm)))
(cExit 2)))
theorem make_round2 {F : CallF} {h g : Hp} {e : Env} {A B p q i : Nat} {P S : List Value} (x : h.Ext g) (hA : g.Row A 0 [.int .i64 (p : Int), .int .i64 (q : Int)]) (hB : g.Row B 0 (part P 8 q i S)) (hP : P.length = 4) (hS : S.length = 0) (hb : h.next ≤ B) (hAB : A ≠ B) (hi : i < 8)
    (s0 : slotG 23 e = .int .i64 (i : Int)) (s1 : slotG 1 e = .pointer (some ⟨A, 0, none⟩)) (s4 : slotG 4 e = .pointer (some ⟨B, 0, none⟩)) :
    ∃ e' g', bodyM2 F e g = .norm e' g' ∧ h.Ext g' ∧ g'.Row A 0 [.int .i64 (p : Int), .int .i64 (q : Int)] ∧ g'.Row B 0 (part P 8 q (i + 1) S) ∧ slotG 23 e' = .int .i64 ((i + 1 : Nat) : Int) ∧ slotG 1 e' = .pointer (some ⟨A, 0, none⟩) ∧ slotG 4 e' = .pointer (some ⟨B, 0, none⟩) := by
  have W := x.wf
  have c1 : iLt (i : Int) 8 = true := by rw [iLt_is]; simp; omega
  have c2 : IntKind.i64.wrap (Int.sub 11 (i : Int)) = ((11 - i : Nat) : Int) := by
    have e1 : Int.sub 11 (i : Int) = ((11 - i : Nat) : Int) := by show (11 : Int) - i = _; omega
    rw [e1]; exact wrap_nat (by omega)
  have c3 : IntKind.i64.wrap (Int.mul 8 (i : Int)) = ((8 * i : Nat) : Int) := by
    have e1 : Int.mul 8 (i : Int) = ((8 * i : Nat) : Int) := by show (8 : Int) * i = _; omega
    rw [e1]; exact wrap_nat (by omega)
  have c4 : shrR .i64 (.int .i64 (q : Int)) (.int .i64 ((8 * i : Nat) : Int)) g = _ := shr_is (by omega)
  have c5 : IntKind.u8.wrap ((q / 256 ^ i : Nat) : Int) = ((q / 256 ^ i % 256 : Nat) : Int) := wrap_u8 _
  have hb' : Value.int .u8 ((q / 256 ^ i % 256 : Nat) : Int) = bv (q / 256 ^ i % 256) := rfl
  have c6 : IntKind.i64.wrap ((i : Int) + 1) = ((i + 1 : Nat) : Int) := wrap_nat (n := i + 1) (by omega)
  have l0 : load1 ⟨A, 1, none⟩ g = .ok (.int .i64 (q : Int)) g := hA.load1 (by simp)
  have c7 : idxR 12 1 (.pointer (some ⟨B, 0, none⟩)) (.int .i64 ((11 - i : Nat) : Int)) g = .ok (.pointer (some ⟨B, 0 + (11 - i) * 1, none⟩)) g := idxR_is (by omega)
  have hl := part_length P S 8 q i (by omega)
  have ho : 0 + (11 - i) * 1 + (cellsOf (bv (q / 256 ^ i % 256))).length ≤ (part P 8 q i S).length := by rw [cells_bv, hl, hP, hS, List.length_singleton]; omega
  have c8 := hB.storeR (n := 1) W (v := bv (q / 256 ^ i % 256)) rfl ho rfl
  have r1 := hB.wr_self W ho
  have e1 : 0 + (11 - i) * 1 = P.length + (8 - 1 - i) := by omega
  have r1' : (g.wr B (0 + (11 - i) * 1) [bv (q / 256 ^ i % 256)]).Row B 0 (part P 8 q (i + 1) S) := by
    have e2 : over (part P 8 q i S) (0 + (11 - i) * 1) (cellsOf (bv (q / 256 ^ i % 256))) = part P 8 q (i + 1) S := by rw [cells_bv, e1]; exact part_next P S 8 q i hi
    rw [e2] at r1; exact r1
  have r2 := hB.wr_other W ho hA hAB
  have x2 := hB.wr_ext x hb ho
  rw [cells_bv] at r2 x2 c8
  have hrun : ∃ e', bodyM2 F e g = .norm e' (g.wr B (0 + (11 - i) * 1) [bv (q / 256 ^ i % 256)]) ∧ slotG 23 e' = .int .i64 ((i + 1 : Nat) : Int) ∧ slotG 1 e' = .pointer (some ⟨A, 0, none⟩) ∧ slotG 4 e' = .pointer (some ⟨B, 0, none⟩) := by
    unfold bodyM2
    simp only [cOp_is, cDo_is, cCond_is, cSeq_is, cBlock_is, cNorm_is, cRet_is, cExit_is, opX_ok, doX_ok, condX_true, condX_false, seqX_norm, seqX_exit, seqX_ret, blockX_norm, blockX_ret, blockX_exit, oMove_is, kV_is, slot_set, Nat.reduceLT, Nat.reduceEqDiff, if_true, if_false, reduceIte, oCmp_is, cmpR_is, s0, s1, s4, c1, oAri_is, ariR_is, c2, oFieldAddr_is', fieldAR_is, Nat.zero_add, oLoad1_is, loadR_is, l0, c3, oShr_is, c4, oConv_is, convR_is, c5, hb', oIdxArr_is, c7, oStore_is]
    simp only [Nat.zero_add] at c8
    simp only [cOp_is, cDo_is, cCond_is, cSeq_is, cBlock_is, cNorm_is, cRet_is, cExit_is, opX_ok, doX_ok, condX_true, condX_false, seqX_norm, seqX_exit, seqX_ret, blockX_norm, blockX_ret, blockX_exit, oMove_is, kV_is, slot_set, Nat.reduceLT, Nat.reduceEqDiff, if_true, if_false, reduceIte, c8, s0, s1, s4, oAdd_is, addR_is, c6]
    exact ⟨_, rfl, by simp only [slot_set, Nat.reduceLT, Nat.reduceEqDiff, if_true, if_false, reduceIte], by simp only [slot_set, Nat.reduceLT, Nat.reduceEqDiff, if_true, if_false, reduceIte, s1], by simp only [slot_set, Nat.reduceLT, Nat.reduceEqDiff, if_true, if_false, reduceIte, s4]⟩
  obtain ⟨e', h1, h2, h3, h4⟩ := hrun
  exact ⟨e', _, h1, x2, r2, r1', h2, h3, h4⟩
theorem make_loop2 {F : CallF} {h g : Hp} {e : Env} {A B p q : Nat} {P S : List Value} (x : h.Ext g) (hA : g.Row A 0 [.int .i64 (p : Int), .int .i64 (q : Int)]) (hB : g.Row B 0 (part P 8 q 0 S)) (hP : P.length = 4) (hS : S.length = 0) (hb : h.next ≤ B) (hAB : A ≠ B)
    (s0 : slotG 23 e = .int .i64 ((0 : Nat) : Int)) (s1 : slotG 1 e = .pointer (some ⟨A, 0, none⟩)) (s4 : slotG 4 e = .pointer (some ⟨B, 0, none⟩)) :
    ∃ e' g', cLoop bodyM2 F e g = .exit 2 e' g' ∧ h.Ext g' ∧ g'.Row A 0 [.int .i64 (p : Int), .int .i64 (q : Int)] ∧ g'.Row B 0 (part P 8 q 8 S) ∧ slotG 1 e' = .pointer (some ⟨A, 0, none⟩) ∧ slotG 4 e' = .pointer (some ⟨B, 0, none⟩) := by
  refine loop_run (I := fun i e g => i ≤ 8 ∧ h.Ext g ∧ g.Row A 0 [.int .i64 (p : Int), .int .i64 (q : Int)] ∧ g.Row B 0 (part P 8 q i S) ∧ slotG 23 e = .int .i64 (i : Int) ∧ slotG 1 e = .pointer (some ⟨A, 0, none⟩) ∧ slotG 4 e = .pointer (some ⟨B, 0, none⟩))
    (Q := fun x => ∃ e' g', x = .exit 2 e' g' ∧ h.Ext g' ∧ g'.Row A 0 [.int .i64 (p : Int), .int .i64 (q : Int)] ∧ g'.Row B 0 (part P 8 q 8 S) ∧ slotG 1 e' = .pointer (some ⟨A, 0, none⟩) ∧ slotG 4 e' = .pointer (some ⟨B, 0, none⟩)) 8 (by omega) (fun i e g ⟨hi, x, hA, hB, s0, s1, s4⟩ => ?_) ⟨Nat.zero_le _, x, hA, hB, s0, s1, s4⟩
  rcases Nat.lt_or_ge i 8 with hlt | hge
  · left
    obtain ⟨e', g', h1, h2, h3, h4, h5, h6, h7⟩ := make_round2 (F := F) x hA hB hP hS hb hAB hlt s0 s1 s4
    exact ⟨hlt, e', g', h1, by omega, h2, h3, h4, h5, h6, h7⟩
  · right
    have hik : i = 8 := by omega
    subst hik
    have c1 : iLt ((8 : Nat) : Int) 8 = false := by rw [iLt_is]; simp
    have hrun : bodyM2 F e g = .exit 2 (Env.set 24 (.bool false) e) g := by
      unfold bodyM2
      simp only [cOp_is, cDo_is, cCond_is, cSeq_is, cBlock_is, cNorm_is, cRet_is, cExit_is, opX_ok, doX_ok, condX_true, condX_false, seqX_norm, seqX_exit, seqX_ret, blockX_norm, blockX_ret, blockX_exit, oMove_is, kV_is, slot_set, Nat.reduceLT, Nat.reduceEqDiff, if_true, if_false, reduceIte, oCmp_is, cmpR_is, s0, c1]
    rw [hrun]
    exact ⟨rfl, _, _, rfl, x, hA, hB, by simp only [slot_set, Nat.reduceLT, Nat.reduceEqDiff, if_true, if_false, reduceIte]; exact s1, by simp only [slot_set, Nat.reduceLT, Nat.reduceEqDiff, if_true, if_false, reduceIte]; exact s4⟩
end Go.Proofs.Ytadoagfabfcdbaa
set_option linter.unusedVariables false
set_option linter.unusedSimpArgs false
namespace Go.Proofs.Ytadoagfabfcdbaa
open Go
theorem zs12 : setAll .mt 0 (zs 12) = some zt35 := by kernel_rfl
noncomputable def cutAR (v : Value) (h : Hp) : R := match adrV v with
  | .ok a => .ok (.slice (some a) 12 12) h
  | .no => .no
theorem oCutArr_is {F : CallF} {e : Env} {h : Hp} {x : O} : oCutArr 12 1 x none none none F e h = cutAR (x e) h := by
  unfold oCutArr cutAR
  cases adrV (x e) <;> rfl
theorem cutAR_is {a : Addr} {h : Hp} : cutAR (.pointer (some a)) h = .ok (.slice (some a) 12 12) h := rfl
theorem make_no {n : Nat} {h : Hp} (W : h.Wf) {a b : Int} (hok : ¬ okH a b) : ∃ h', call bodies (n + 2) 6 [.agg ⟨[.int .i64 a, .int .i64 b]⟩] h = .ok (.tuple ⟨[.slice none 0 0, .int .i64 170]⟩) h' ∧ h.Ext h' := by
  have R := Hp.Row.new W 0 [.int .i64 a, .int .i64 b]
  have W1 := pushRow_wf W (el := 0) (l := [.int .i64 a, .int .i64 b])
  have l0 : loadN 2 ⟨h.next, 0, none⟩ (h.pushRow 0 [.int .i64 a, .int .i64 b]) = .ok (.agg ⟨[.int .i64 a, .int .i64 b]⟩) _ := R.loadN (by simp)
  have c1 := right_is (n := n) W1 a b
  rw [notOk hok] at c1
  refine ⟨_, ?_, ((Hp.Ext.refl W).pushRow 0 [.int .i64 a, .int .i64 b]).pushRow 0 [.int .i64 a, .int .i64 b]⟩
  rw [call6 rfl]
  unfold d6
  simp only [setArgs_cons, setArgs_nil, Nat.succ_eq_add_one, Nat.zero_add, Nat.reduceAdd, cOp_is, cDo_is, cCond_is, cSeq_is, cBlock_is, cNorm_is, cRet_is, cExit_is, opX_ok, doX_ok, condX_true, condX_false, seqX_norm, seqX_exit, seqX_ret, blockX_norm, blockX_ret, blockX_exit, oMove_is, kV_is, slot_set, Nat.reduceLT, Nat.reduceEqDiff, if_true, if_false, reduceIte, oBox_is, boxR_is W, cells_agg, oLoadN_is, loadsR_is, l0, oCall_is, vals_cons, vals_nil, c1, oNot_is, notR_is, Bool.not_false, leave_ret, finish_2]
theorem make_ok {n : Nat} {h : Hp} (W : h.Wf) {p q : Nat} (hok : okH p q) : ∃ h' v, call bodies (n + 2) 6 [.agg ⟨[.int .i64 (p : Int), .int .i64 (q : Int)]⟩] h = .ok (.tuple ⟨[v, .int .i64 0]⟩) h' ∧ h.Ext h' ∧ h'.Bytes v (numL p 4 ++ numL q 8) := by
  have R := Hp.Row.new W 0 [.int .i64 (p : Int), .int .i64 (q : Int)]
  have W1 := pushRow_wf W (el := 0) (l := [.int .i64 (p : Int), .int .i64 (q : Int)])
  have l0 : loadN 2 ⟨h.next, 0, none⟩ (h.pushRow 0 [.int .i64 (p : Int), .int .i64 (q : Int)]) = .ok (.agg ⟨[.int .i64 (p : Int), .int .i64 (q : Int)]⟩) _ := R.loadN (by simp)
  have c1 := right_is (n := n) W1 p q
  rw [isOk hok] at c1
  have x2 := ((Hp.Ext.refl W).pushRow 0 [.int .i64 (p : Int), .int .i64 (q : Int)]).pushRow 0 [.int .i64 (p : Int), .int .i64 (q : Int)]
  have R2 := R.push W1 (.cells (ofL [.int .i64 (p : Int), .int .i64 (q : Int)]) 2 0)
  generalize hg : (h.pushRow 0 [.int .i64 (p : Int), .int .i64 (q : Int)]).pushRow 0 [.int .i64 (p : Int), .int .i64 (q : Int)] = h2 at c1 x2
  have R2 : h2.Row h.next 0 [.int .i64 (p : Int), .int .i64 (q : Int)] := hg ▸ R2
  have hnx : h2.next = h.next + 2 := by rw [← hg]; rfl
  have x3 := x2.push (.cells zt35 12 0)
  have RA : (h2.push (.cells zt35 12 0)).Row h.next 0 [.int .i64 (p : Int), .int .i64 (q : Int)] := R2.push x2.wf _
  have RB : (h2.push (.cells zt35 12 0)).Row h2.next 0 (part [] 4 p 0 (zs 8)) := Hp.Row.alloc x2.wf zs12 rfl
  obtain ⟨e4, h4, a1, a2, a3, a4, a5, a6⟩ := make_loop1 (F := call bodies (n + 1)) (e := Env.set 10 (.int .i64 0) (Env.set 4 (.pointer (some ⟨h2.next, 0, none⟩)) (Env.set 9 (.bool false) (Env.set 8 (.bool true) (Env.set 7 (.agg ⟨[.int .i64 (p : Int), .int .i64 (q : Int)]⟩) (Env.set 3 (.int .i64 0) (Env.set 2 (.slice none 0 0) (Env.set 1 (.pointer (some ⟨h.next, 0, none⟩)) (Env.set 0 (.agg ⟨[.int .i64 (p : Int), .int .i64 (q : Int)]⟩) e0)))))))))
    x3 RA RB rfl rfl x2.next (by omega) (by simp only [slot_set, Nat.reduceLT, Nat.reduceEqDiff, if_true, if_false, reduceIte]; rfl) (by simp only [slot_set, Nat.reduceLT, Nat.reduceEqDiff, if_true, if_false, reduceIte]) (by simp only [slot_set, Nat.reduceLT, Nat.reduceEqDiff, if_true, if_false, reduceIte])
  have e1 : part [] 4 p 4 (zs 8) = part ((numL p 4).map bv) 8 q 0 [] := by unfold part; simp [zs, numL]
  rw [e1] at a4
  obtain ⟨e5, h5, b1, b2, b3, b4, b5, b6⟩ := make_loop2 (F := call bodies (n + 1)) (e := Env.set 23 (.int .i64 0) e4) a2 a3 a4 (by simp [numL_length]) rfl x2.next (by omega) (by simp only [slot_set, Nat.reduceLT, Nat.reduceEqDiff, if_true, if_false, reduceIte]; rfl) (by simp only [slot_set, Nat.reduceLT, Nat.reduceEqDiff, if_true, if_false, reduceIte]; exact a5) (by simp only [slot_set, Nat.reduceLT, Nat.reduceEqDiff, if_true, if_false, reduceIte]; exact a6)
  have e2 : part ((numL p 4).map bv) 8 q 8 [] = (numL p 4 ++ numL q 8).map bv := by unfold part; simp [zs]
  rw [e2] at b4
  have e12 : (numL p 4 ++ numL q 8).length = 12 := by simp [numL_length]
  refine ⟨h5, .slice (some ⟨h2.next, 0, none⟩) 12 12, ?_, b2, .inr ⟨_, 0, 12, 0, _, by rw [e12], b4, by simp, by rw [List.drop_zero, List.take_of_length_le (by simp)]⟩⟩
  rw [call6 rfl]
  unfold d6
  unfold bodyM1 at a1
  unfold bodyM2 at b1
  simp only [setArgs_cons, setArgs_nil, Nat.succ_eq_add_one, Nat.zero_add, Nat.reduceAdd, cOp_is, cDo_is, cCond_is, cSeq_is, cBlock_is, cNorm_is, cRet_is, cExit_is, opX_ok, doX_ok, condX_true, condX_false, seqX_norm, seqX_exit, seqX_ret, blockX_norm, blockX_ret, blockX_exit, oMove_is, kV_is, slot_set, Nat.reduceLT, Nat.reduceEqDiff, if_true, if_false, reduceIte, oBox_is, boxR_is W, cells_agg, oLoadN_is, loadsR_is, l0, oCall_is, vals_cons, vals_nil, c1, oNot_is, notR_is, Bool.not_true, oAlloc_is x2.wf, a1, b1, b6, oCutArr_is, cutAR_is, leave_ret, finish_2]
end Go.Proofs.Ytadoagfabfcdbaa

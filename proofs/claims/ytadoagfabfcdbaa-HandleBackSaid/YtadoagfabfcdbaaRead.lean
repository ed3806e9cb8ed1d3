/-
  What the program reads of bytes: the two numbers.
  What the program reads of bytes.
  What the document reads of bytes: the loops.
  What the document reads of bytes.
-/
import Derived.Test.YtadoagfabfcdbaaMake
set_option linter.unusedVariables false
set_option linter.unusedSimpArgs false
namespace Go.Proofs.Ytadoagfabfcdbaa
open Go
/-- the number of so many bytes, the highest first -/
def num (f : Nat → Nat) : Nat → Nat
  | 0 => 0
  | k + 1 => num f k * 256 + f k
theorem num_lt {f : Nat → Nat} (hf : ∀ i, f i < 256) : ∀ k, num f k < 256 ^ k
  | 0 => by show 0 < 1; omega
  | k + 1 => by
    have := num_lt hf k
    have := hf k
    show num f k * 256 + f k < 256 ^ (k + 1)
    rw [Nat.pow_succ]; omega
theorem lor_byte {m b : Nat} (h : b < 256) : Nat.lor (m * 256) b = m * 256 + b := by
  have := Nat.two_pow_add_eq_or_of_lt (i := 8) (b := b) (by omega) m
  have e : (2:Nat)^8 = 256 := rfl
  rw [e, Nat.mul_comm] at this
  exact this.symm
theorem shl8 {h : Hp} {m : Nat} (hm : m < 256 ^ 7) : shlR .u64 (.int .u64 (m : Int)) (.int .u64 8) h = .ok (.int .u64 ((m * 256 : Nat) : Int)) h := by
  have := shlR_is (h := h) (j := .u64) (q := .u64) (m := m) (n := 8)
  have e1 : m * 2 ^ min 8 IntKind.u64.bits = m * 256 := rfl
  rw [e1, wrap_u64 (by have : (256:Nat)^7 = 72057594037927936 := rfl; omega)] at this
  exact this
theorem lor8 {h : Hp} {m b : Nat} (hm : m < 256 ^ 7) (hb : b < 256) : bitR Nat.lor .u64 (.int .u64 ((m * 256 : Nat) : Int)) (.int .u64 (b : Int)) h = .ok (.int .u64 ((m * 256 + b : Nat) : Int)) h := by
  have e : (256:Nat)^7 = 72057594037927936 := rfl
  have := bitR_is (h := h) (f := Nat.lor) (j := .u64) (m := m * 256) (n := b) (by show _ ≤ 18446744073709551615; omega) (by show _ ≤ 18446744073709551615; omega)
  rw [lor_byte hb] at this
  exact this
/-- a byte of a list, from a place on -/
def byt (l : List Nat) (o i : Nat) : Nat := l.getD (o + i) 0
theorem byt_lt {l : List Nat} (hl : ∀ x ∈ l, x < 256) (o i : Nat) : byt l o i < 256 := by
  unfold byt
  rw [List.getD_eq_getElem?_getD]
  cases h : l[o + i]? with
  | none => show 0 < 256; omega
  | some x => exact hl x (List.mem_of_getElem? h)
noncomputable def bodyR1 : C := (cOp (slotT 14) (oCmp iLt .i64 (slotG 13) (kV (.int .i64 4)))
(cCond (slotG 14)
(cSeq (cBlock 1 (cOp (slotT 6) (oMove (slotG 13))
(cOp (slotT 17) (oShl .u64 (slotG 4) (kV (.int .u64 8)))
(cOp (slotT 20) (oIdx 1 (slotG 0) (slotG 6))
(cOp (slotT 21) (oLoad1 (slotG 20))
(cOp (slotT 22) (oConv .u64 (slotG 21))
(cOp (slotT 23) (oBit Nat.lor .u64 (slotG 17) (slotG 22))
(cOp (slotT 4) (oMove (slotG 23))
cNorm))))))))
(cOp (slotT 24) (oAdd .i64 (topOf .i64) (slotG 13) (kV (.int .i64 1)))
(cOp (slotT 13) (oMove (slotG 24))
cNorm)))
(cExit 0)))
theorem read_round1 {F : CallF} {g : Hp} {e : Env} {v w2 w1 : Value} {l : List Nat} {i : Nat} (B : g.Bytes v l) (hl : l.length = 12) (hb : ∀ x ∈ l, x < 256) (hi : i < 4)
    (s0 : slotG 13 e = .int .i64 (i : Int)) (s1 : slotG 0 e = v) (s4 : slotG 4 e = .int .u64 ((num (byt l 0) i : Nat) : Int)) (s2 : slotG 2 e = w2) (s9 : slotG 5 e = w1) :
    ∃ e', bodyR1 F e g = .norm e' g ∧ slotG 13 e' = .int .i64 ((i + 1 : Nat) : Int) ∧ slotG 0 e' = v ∧ slotG 4 e' = .int .u64 ((num (byt l 0) (i + 1) : Nat) : Int) ∧ slotG 2 e' = w2 ∧ slotG 5 e' = w1 := by
  have c1 : iLt (i : Int) 4 = true := by rw [iLt_is]; simp; omega
  have hlt := num_lt (byt_lt hb 0) i
  have hp : 256 ^ i ≤ 256 ^ 7 := Nat.pow_le_pow_right (by omega) (by omega)
  have c2 := shl8 (h := g) (m := num (byt l 0) i) (by omega)
  obtain ⟨a, c3, c4⟩ := B.at (i := 0 + i) (by omega)
  have hbt : l.getD (0 + i) 0 = byt l 0 i := rfl
  rw [hbt] at c4
  have c4' : loadR (.pointer (some a)) g = .ok (.int .u8 ((byt l 0 i : Nat) : Int)) g := c4
  have c5 : IntKind.u64.wrap ((byt l 0 i : Nat) : Int) = ((byt l 0 i : Nat) : Int) := wrap_u64 (by have := byt_lt hb 0 i; omega)
  have c6 := lor8 (h := g) (m := num (byt l 0) i) (b := byt l 0 i) (by omega) (byt_lt hb 0 i)
  have c7 : IntKind.i64.wrap ((i : Int) + 1) = ((i + 1 : Nat) : Int) := wrap_nat (n := i + 1) (by omega)
  have c8 : IntKind.i64.wrap (4 + (i : Int)) = ((4 + i : Nat) : Int) := wrap_nat (n := 4 + i) (by omega)
  try simp only [Nat.zero_add] at c3
  unfold bodyR1
  simp only [cOp_is, cDo_is, cCond_is, cSeq_is, cBlock_is, cNorm_is, cRet_is, cExit_is, opX_ok, doX_ok, condX_true, condX_false, seqX_norm, seqX_exit, seqX_ret, blockX_norm, blockX_ret, blockX_exit, oMove_is, kV_is, slot_set, Nat.reduceLT, Nat.reduceEqDiff, if_true, if_false, reduceIte, oCmp_is, cmpR_is, s0, s1, s4, c1, oShl_is, c2, oAdd_is, addR_is, c8, oIdx_is, c3, oLoad1_is, c4', oConv_is, convR_is, c5, oBit_is, c6, c7]
  exact ⟨_, rfl, by simp only [slot_set, Nat.reduceLT, Nat.reduceEqDiff, if_true, if_false, reduceIte], by simp only [slot_set, Nat.reduceLT, Nat.reduceEqDiff, if_true, if_false, reduceIte, s1], by simp only [slot_set, Nat.reduceLT, Nat.reduceEqDiff, if_true, if_false, reduceIte]; rfl, by simp only [slot_set, Nat.reduceLT, Nat.reduceEqDiff, if_true, if_false, reduceIte, s2], by simp only [slot_set, Nat.reduceLT, Nat.reduceEqDiff, if_true, if_false, reduceIte, s9]⟩
theorem read_loop1 {F : CallF} {g : Hp} {e : Env} {v w2 w1 : Value} {l : List Nat} (B : g.Bytes v l) (hl : l.length = 12) (hb : ∀ x ∈ l, x < 256)
    (s0 : slotG 13 e = .int .i64 ((0 : Nat) : Int)) (s1 : slotG 0 e = v) (s4 : slotG 4 e = .int .u64 ((0 : Nat) : Int)) (s2 : slotG 2 e = w2) (s9 : slotG 5 e = w1) :
    ∃ e', cLoop bodyR1 F e g = .exit 0 e' g ∧ slotG 0 e' = v ∧ slotG 4 e' = .int .u64 ((num (byt l 0) 4 : Nat) : Int) ∧ slotG 2 e' = w2 ∧ slotG 5 e' = w1 := by
  have := loop_run (F := F) (h := g) (e := e) (body := bodyR1) (I := fun i e g' => i ≤ 4 ∧ g' = g ∧ slotG 13 e = .int .i64 (i : Int) ∧ slotG 0 e = v ∧ slotG 4 e = .int .u64 ((num (byt l 0) i : Nat) : Int) ∧ slotG 2 e = w2 ∧ slotG 5 e = w1)
    (Q := fun x => ∃ e', x = .exit 0 e' g ∧ slotG 0 e' = v ∧ slotG 4 e' = .int .u64 ((num (byt l 0) 4 : Nat) : Int) ∧ slotG 2 e' = w2 ∧ slotG 5 e' = w1) 4 (by omega) (fun i e g' ⟨hi, hg, s0, s1, s4, s2, s9⟩ => ?_) ⟨Nat.zero_le _, rfl, s0, s1, s4, s2, s9⟩
  · exact this
  subst hg
  rcases Nat.lt_or_ge i 4 with hlt | hge
  · left
    obtain ⟨e', h1, h2, h3, h4, h5, h6⟩ := read_round1 (F := F) B hl hb hlt s0 s1 s4 s2 s9
    exact ⟨hlt, e', g', h1, by omega, rfl, h2, h3, h4, h5, h6⟩
  · right
    have hik : i = 4 := by omega
    subst hik
    have c1 : iLt ((4 : Nat) : Int) 4 = false := by rw [iLt_is]; simp
    have hrun : bodyR1 F e g' = .exit 0 (Env.set 14 (.bool false) e) g' := by
      unfold bodyR1
      simp only [cOp_is, cDo_is, cCond_is, cSeq_is, cBlock_is, cNorm_is, cRet_is, cExit_is, opX_ok, doX_ok, condX_true, condX_false, seqX_norm, seqX_exit, seqX_ret, blockX_norm, blockX_ret, blockX_exit, oMove_is, kV_is, slot_set, Nat.reduceLT, Nat.reduceEqDiff, if_true, if_false, reduceIte, oCmp_is, cmpR_is, s0, c1]
    rw [hrun]
    exact ⟨rfl, _, rfl, by simp only [slot_set, Nat.reduceLT, Nat.reduceEqDiff, if_true, if_false, reduceIte]; exact s1, by simp only [slot_set, Nat.reduceLT, Nat.reduceEqDiff, if_true, if_false, reduceIte]; exact s4, by simp only [slot_set, Nat.reduceLT, Nat.reduceEqDiff, if_true, if_false, reduceIte]; exact s2, by simp only [slot_set, Nat.reduceLT, Nat.reduceEqDiff, if_true, if_false, reduceIte]; exact s9⟩
noncomputable def bodyR2 : C := (cOp (slotT 26) (oCmp iLt .i64 (slotG 25) (kV (.int .i64 8)))
(cCond (slotG 26)
(cSeq (cBlock 3 (cOp (slotT 7) (oMove (slotG 25))
(cOp (slotT 29) (oShl .u64 (slotG 5) (kV (.int .u64 8)))
(cOp (slotT 32) (oAdd .i64 (topOf .i64) (kV (.int .i64 4)) (slotG 7))
(cOp (slotT 33) (oIdx 1 (slotG 0) (slotG 32))
(cOp (slotT 34) (oLoad1 (slotG 33))
(cOp (slotT 35) (oConv .u64 (slotG 34))
(cOp (slotT 36) (oBit Nat.lor .u64 (slotG 29) (slotG 35))
(cOp (slotT 5) (oMove (slotG 36))
cNorm)))))))))
(cOp (slotT 37) (oAdd .i64 (topOf .i64) (slotG 25) (kV (.int .i64 1)))
(cOp (slotT 25) (oMove (slotG 37))
cNorm)))
(cExit 2)))
theorem read_round2 {F : CallF} {g : Hp} {e : Env} {v w2 w1 : Value} {l : List Nat} {i : Nat} (B : g.Bytes v l) (hl : l.length = 12) (hb : ∀ x ∈ l, x < 256) (hi : i < 8)
    (s0 : slotG 25 e = .int .i64 (i : Int)) (s1 : slotG 0 e = v) (s4 : slotG 5 e = .int .u64 ((num (byt l 4) i : Nat) : Int)) (s2 : slotG 2 e = w2) (s9 : slotG 4 e = w1) :
    ∃ e', bodyR2 F e g = .norm e' g ∧ slotG 25 e' = .int .i64 ((i + 1 : Nat) : Int) ∧ slotG 0 e' = v ∧ slotG 5 e' = .int .u64 ((num (byt l 4) (i + 1) : Nat) : Int) ∧ slotG 2 e' = w2 ∧ slotG 4 e' = w1 := by
  have c1 : iLt (i : Int) 8 = true := by rw [iLt_is]; simp; omega
  have hlt := num_lt (byt_lt hb 4) i
  have hp : 256 ^ i ≤ 256 ^ 7 := Nat.pow_le_pow_right (by omega) (by omega)
  have c2 := shl8 (h := g) (m := num (byt l 4) i) (by omega)
  obtain ⟨a, c3, c4⟩ := B.at (i := 4 + i) (by omega)
  have hbt : l.getD (4 + i) 0 = byt l 4 i := rfl
  rw [hbt] at c4
  have c4' : loadR (.pointer (some a)) g = .ok (.int .u8 ((byt l 4 i : Nat) : Int)) g := c4
  have c5 : IntKind.u64.wrap ((byt l 4 i : Nat) : Int) = ((byt l 4 i : Nat) : Int) := wrap_u64 (by have := byt_lt hb 4 i; omega)
  have c6 := lor8 (h := g) (m := num (byt l 4) i) (b := byt l 4 i) (by omega) (byt_lt hb 4 i)
  have c7 : IntKind.i64.wrap ((i : Int) + 1) = ((i + 1 : Nat) : Int) := wrap_nat (n := i + 1) (by omega)
  have c8 : IntKind.i64.wrap (4 + (i : Int)) = ((4 + i : Nat) : Int) := wrap_nat (n := 4 + i) (by omega)
  try simp only [Nat.zero_add] at c3
  unfold bodyR2
  simp only [cOp_is, cDo_is, cCond_is, cSeq_is, cBlock_is, cNorm_is, cRet_is, cExit_is, opX_ok, doX_ok, condX_true, condX_false, seqX_norm, seqX_exit, seqX_ret, blockX_norm, blockX_ret, blockX_exit, oMove_is, kV_is, slot_set, Nat.reduceLT, Nat.reduceEqDiff, if_true, if_false, reduceIte, oCmp_is, cmpR_is, s0, s1, s4, c1, oShl_is, c2, oAdd_is, addR_is, c8, oIdx_is, c3, oLoad1_is, c4', oConv_is, convR_is, c5, oBit_is, c6, c7]
  exact ⟨_, rfl, by simp only [slot_set, Nat.reduceLT, Nat.reduceEqDiff, if_true, if_false, reduceIte], by simp only [slot_set, Nat.reduceLT, Nat.reduceEqDiff, if_true, if_false, reduceIte, s1], by simp only [slot_set, Nat.reduceLT, Nat.reduceEqDiff, if_true, if_false, reduceIte]; rfl, by simp only [slot_set, Nat.reduceLT, Nat.reduceEqDiff, if_true, if_false, reduceIte, s2], by simp only [slot_set, Nat.reduceLT, Nat.reduceEqDiff, if_true, if_false, reduceIte, s9]⟩
theorem read_loop2 {F : CallF} {g : Hp} {e : Env} {v w2 w1 : Value} {l : List Nat} (B : g.Bytes v l) (hl : l.length = 12) (hb : ∀ x ∈ l, x < 256)
    (s0 : slotG 25 e = .int .i64 ((0 : Nat) : Int)) (s1 : slotG 0 e = v) (s4 : slotG 5 e = .int .u64 ((0 : Nat) : Int)) (s2 : slotG 2 e = w2) (s9 : slotG 4 e = w1) :
    ∃ e', cLoop bodyR2 F e g = .exit 2 e' g ∧ slotG 0 e' = v ∧ slotG 5 e' = .int .u64 ((num (byt l 4) 8 : Nat) : Int) ∧ slotG 2 e' = w2 ∧ slotG 4 e' = w1 := by
  have := loop_run (F := F) (h := g) (e := e) (body := bodyR2) (I := fun i e g' => i ≤ 8 ∧ g' = g ∧ slotG 25 e = .int .i64 (i : Int) ∧ slotG 0 e = v ∧ slotG 5 e = .int .u64 ((num (byt l 4) i : Nat) : Int) ∧ slotG 2 e = w2 ∧ slotG 4 e = w1)
    (Q := fun x => ∃ e', x = .exit 2 e' g ∧ slotG 0 e' = v ∧ slotG 5 e' = .int .u64 ((num (byt l 4) 8 : Nat) : Int) ∧ slotG 2 e' = w2 ∧ slotG 4 e' = w1) 8 (by omega) (fun i e g' ⟨hi, hg, s0, s1, s4, s2, s9⟩ => ?_) ⟨Nat.zero_le _, rfl, s0, s1, s4, s2, s9⟩
  · exact this
  subst hg
  rcases Nat.lt_or_ge i 8 with hlt | hge
  · left
    obtain ⟨e', h1, h2, h3, h4, h5, h6⟩ := read_round2 (F := F) B hl hb hlt s0 s1 s4 s2 s9
    exact ⟨hlt, e', g', h1, by omega, rfl, h2, h3, h4, h5, h6⟩
  · right
    have hik : i = 8 := by omega
    subst hik
    have c1 : iLt ((8 : Nat) : Int) 8 = false := by rw [iLt_is]; simp
    have hrun : bodyR2 F e g' = .exit 2 (Env.set 26 (.bool false) e) g' := by
      unfold bodyR2
      simp only [cOp_is, cDo_is, cCond_is, cSeq_is, cBlock_is, cNorm_is, cRet_is, cExit_is, opX_ok, doX_ok, condX_true, condX_false, seqX_norm, seqX_exit, seqX_ret, blockX_norm, blockX_ret, blockX_exit, oMove_is, kV_is, slot_set, Nat.reduceLT, Nat.reduceEqDiff, if_true, if_false, reduceIte, oCmp_is, cmpR_is, s0, c1]
    rw [hrun]
    exact ⟨rfl, _, rfl, by simp only [slot_set, Nat.reduceLT, Nat.reduceEqDiff, if_true, if_false, reduceIte]; exact s1, by simp only [slot_set, Nat.reduceLT, Nat.reduceEqDiff, if_true, if_false, reduceIte]; exact s4, by simp only [slot_set, Nat.reduceLT, Nat.reduceEqDiff, if_true, if_false, reduceIte]; exact s2, by simp only [slot_set, Nat.reduceLT, Nat.reduceEqDiff, if_true, if_false, reduceIte]; exact s9⟩
end Go.Proofs.Ytadoagfabfcdbaa
set_option linter.unusedVariables false
set_option linter.unusedSimpArgs false
namespace Go.Proofs.Ytadoagfabfcdbaa
open Go
theorem zero23 : ty23.zero = [.int .i64 0, .int .i64 0] := by kernel_rfl
theorem zt23_is : setAll .mt 0 [.int .i64 0, .int .i64 0] = some zt23 := by kernel_rfl
noncomputable def finR (r : R) (w : Value) (h : Hp) : R := match r with
  | .ok v _ => .ok (.tuple ⟨[v, w]⟩) h
  | .no => .no
theorem finish_cN {e : Env} {h : Hp} {g g' : O} {n : Nat} : finish [.cN g n, .t g'] e h = finR (loadsR n (g e) h) (g' e) h := by
  show (match (match adrV (g e) with | .ok a => loadN n a h | .no => .no) with | .ok v _ => forceV v fun v => (match R.ok (g' e) h with | .ok v' _ => forceV v' fun v' => finish2 h [v, v'] | .no => .no) | .no => .no) = _
  unfold finR loadsR
  cases adrV (g e) with
  | no => rfl
  | ok a =>
    simp only
    cases loadN n a h with
    | no => rfl
    | ok v h' => simp only [forceV_is]; rfl
theorem finR_ok {v w : Value} {h h' : Hp} : finR (.ok v h') w h = .ok (.tuple ⟨[v, w]⟩) h := rfl
theorem over_two0 {x y u : Value} : over [x, y] 0 [u] = [u, y] := rfl
theorem over_two1 {x y u : Value} : over [x, y] 1 [u] = [x, u] := rfl
noncomputable def bad : Value := .tuple ⟨[.agg ⟨[.int .i64 0, .int .i64 0]⟩, .int .i64 170]⟩
theorem read_len {n : Nat} {h : Hp} (W : h.Wf) {v : Value} {l : List Nat} (B : h.Bytes v l) (hl : l.length ≠ 12) : ∃ h', call bodies (n + 2) 8 [v] h = .ok bad h' ∧ h.Ext h' := by
  have x1 := (Hp.Ext.refl W).push (.cells zt23 2 0)
  have R : (h.push (.cells zt23 2 0)).Row h.next 0 [.int .i64 0, .int .i64 0] := Hp.Row.alloc W zt23_is rfl
  have B1 := B.ext W x1
  have st0 := R.storeR (n := 2) (off := 0) x1.wf (v := .agg ⟨[.int .i64 0, .int .i64 0]⟩) rfl (by simp [cells_agg]) rfl
  have R2 := R.wr_self x1.wf (off := 0) (vs := [.int .i64 0, .int .i64 0]) (by simp)
  have ld0 : loadN 2 ⟨h.next, 0, none⟩ ((h.push (.cells zt23 2 0)).wr h.next 0 [.int .i64 0, .int .i64 0]) = .ok (.agg ⟨[.int .i64 0, .int .i64 0]⟩) _ := R2.loadN (by simp [over])
  have c0 : (!((l.length : Int) == 12)) = true := by simp; omega
  refine ⟨_, ?_, R.wr_ext x1 (Nat.le_refl _) (off := 0) (vs := [.int .i64 0, .int .i64 0]) (by simp)⟩
  rw [call8 rfl]
  unfold d8 bad
  rw [cells_agg] at st0
  simp only [setArgs_cons, setArgs_nil, Nat.succ_eq_add_one, Nat.zero_add, Nat.reduceAdd, cOp_is, cDo_is, cCond_is, cSeq_is, cBlock_is, cNorm_is, cRet_is, cExit_is, opX_ok, doX_ok, condX_true, condX_false, seqX_norm, seqX_exit, seqX_ret, blockX_norm, blockX_ret, blockX_exit, oMove_is, kV_is, slot_set, Nat.reduceLT, Nat.reduceEqDiff, if_true, if_false, reduceIte, oAlloc_is W, oLenS_is, B1.len, oCmp_is, cmpR_is, iNe_is, c0, oBuild_is, zero23, fillL_nil, oStore_is, st0, oLoadN_is, loadsR_is, finish_cN, finR_ok, leave_ret, ld0]
/-- ahead of the tests: both numbers have been read -/
theorem read_nums {F : CallF} {h : Hp} {e : Env} {v w : Value} {l : List Nat} (B : h.Bytes v l) (hl : l.length = 12) (hb : ∀ x ∈ l, x < 256) (s0 : slotG 0 e = v) (s2 : slotG 2 e = w) (s3 : slotG 13 e = .int .i64 0) (s4 : slotG 4 e = .int .u64 0) (s5 : slotG 5 e = .int .u64 0) :
    ∃ e', (∀ k : C, (cSeq (cBlock 0 (cLoop bodyR1)) (cOp (slotT 25) (oMove (kV (.int .i64 0))) (cSeq (cBlock 2 (cLoop bodyR2)) k))) F e h = k F e' h) ∧ slotG 2 e' = w ∧ slotG 4 e' = .int .u64 ((num (byt l 0) 4 : Nat) : Int) ∧ slotG 5 e' = .int .u64 ((num (byt l 4) 8 : Nat) : Int) := by
  obtain ⟨e1, a1, a2, a3, a4, a5⟩ := read_loop1 (F := F) (e := e) B hl hb s3 s0 s4 s2 s5
  obtain ⟨e2, b1, b2, b3, b4, b5⟩ := read_loop2 (F := F) (e := Env.set 25 (.int .i64 0) e1) B hl hb (by simp only [slot_set, Nat.reduceLT, Nat.reduceEqDiff, if_true, if_false, reduceIte]; rfl) (by simp only [slot_set, Nat.reduceLT, Nat.reduceEqDiff, if_true, if_false, reduceIte]; exact a2) (by simp only [slot_set, Nat.reduceLT, Nat.reduceEqDiff, if_true, if_false, reduceIte]; exact a5) (by simp only [slot_set, Nat.reduceLT, Nat.reduceEqDiff, if_true, if_false, reduceIte]; exact a4) (by simp only [slot_set, Nat.reduceLT, Nat.reduceEqDiff, if_true, if_false, reduceIte]; exact a3)
  refine ⟨e2, fun k => ?_, b4, b5, b3⟩
  simp only [cOp_is, cDo_is, cCond_is, cSeq_is, cBlock_is, cNorm_is, cRet_is, cExit_is, opX_ok, doX_ok, condX_true, condX_false, seqX_norm, seqX_exit, seqX_ret, blockX_norm, blockX_ret, blockX_exit, oMove_is, kV_is, slot_set, Nat.reduceLT, Nat.reduceEqDiff, if_true, if_false, reduceIte, a1, b1]
theorem read_is {n : Nat} {h : Hp} (W : h.Wf) {v : Value} {l : List Nat} (B : h.Bytes v l) (hl : l.length = 12) (hb : ∀ x ∈ l, x < 256) :
    ∃ h', call bodies (n + 2) 8 [v] h = .ok (if okH (num (byt l 0) 4 : Nat) (num (byt l 4) 8 : Nat) then .tuple ⟨[.agg ⟨[.int .i64 (num (byt l 0) 4 : Nat), .int .i64 (num (byt l 4) 8 : Nat)]⟩, .int .i64 0]⟩ else bad) h' ∧ h.Ext h' := by
  generalize hp : num (byt l 0) 4 = p
  generalize hq : num (byt l 4) 8 = q
  have x1 := (Hp.Ext.refl W).push (.cells zt23 2 0)
  have R : (h.push (.cells zt23 2 0)).Row h.next 0 [.int .i64 0, .int .i64 0] := Hp.Row.alloc W zt23_is rfl
  have B1 := B.ext W x1
  have hnx : (h.push (.cells zt23 2 0)).next = h.next + 1 := rfl
  have hal := fun (e : Env) => oAlloc_is (F := call bodies (n + 1)) (e := e) (n := 2) (t := zt23) W
  generalize hg : h.push (.cells zt23 2 0) = h1 at x1 R B1 hal hnx
  have st0 := R.storeR (n := 2) (off := 0) x1.wf (v := .agg ⟨[.int .i64 0, .int .i64 0]⟩) rfl (by simp [cells_agg]) rfl
  rw [cells_agg] at st0
  have R2 := R.wr_self x1.wf (off := 0) (vs := [.int .i64 0, .int .i64 0]) (by simp)
  have ld0 : loadN 2 ⟨h.next, 0, none⟩ (h1.wr h.next 0 [.int .i64 0, .int .i64 0]) = .ok (.agg ⟨[.int .i64 0, .int .i64 0]⟩) _ := R2.loadN (by simp [over])
  have x2 := R.wr_ext x1 (Nat.le_refl _) (off := 0) (vs := [.int .i64 0, .int .i64 0]) (by simp)
  have c0 : (!((l.length : Int) == 12)) = false := by simp; omega
  -- what stands behind the two loops
  rw [call8 rfl]
  unfold d8
  have hloop := fun (e : Env) (s0 : slotG 0 e = v) (s2 : slotG 2 e = .pointer (some ⟨h.next, 0, none⟩)) (s3 : slotG 13 e = .int .i64 0) (s4 : slotG 4 e = .int .u64 0) (s5 : slotG 5 e = .int .u64 0) => read_nums (F := call bodies (n + 1)) B1 hl hb s0 s2 s3 s4 s5
  unfold bodyR1 bodyR2 at hloop
  simp only [setArgs_cons, setArgs_nil, Nat.succ_eq_add_one, Nat.zero_add, Nat.reduceAdd]
  simp only [cOp_is, opX_ok, cCond_is, condX_true, condX_false, oMove_is, kV_is, slot_set, Nat.reduceLT, Nat.reduceEqDiff, if_true, if_false, reduceIte, hal, oLenS_is, B1.len, oCmp_is, cmpR_is, iNe_is, c0]
  obtain ⟨e', hk, s2, s4, s5⟩ := hloop (Env.set 13 (.int .i64 0) (Env.set 5 (.int .u64 0) (Env.set 4 (.int .u64 0) (Env.set 11 (.bool false) (Env.set 10 (.int .i64 (l.length : Int)) (Env.set 3 (.int .i64 0) (Env.set 2 (.pointer (some ⟨h.next, 0, none⟩)) (Env.set 0 v e0)))))))) (by simp only [slot_set, Nat.reduceLT, Nat.reduceEqDiff, if_true, if_false, reduceIte]) (by simp only [slot_set, Nat.reduceLT, Nat.reduceEqDiff, if_true, if_false, reduceIte]) (by simp only [slot_set, Nat.reduceLT, Nat.reduceEqDiff, if_true, if_false, reduceIte]) (by simp only [slot_set, Nat.reduceLT, Nat.reduceEqDiff, if_true, if_false, reduceIte]) (by simp only [slot_set, Nat.reduceLT, Nat.reduceEqDiff, if_true, if_false, reduceIte])
  rw [hk]
  rw [hp] at s4
  rw [hq] at s5
  have g1 : iGt (p : Int) 500 = decide (500 < p) := by rw [iGt_is]; congr 1; simp; omega
  have g2 : iGt (q : Int) 1099511627776 = decide (1099511627776 < q) := by rw [iGt_is]; congr 1; simp; omega
  by_cases hA : 500 < p
  · have hno : ¬ okH (p : Int) (q : Int) := by unfold okH; omega
    rw [decide_eq_true hA] at g1
    rw [if_neg hno]
    refine ⟨_, ?_, x2⟩
    unfold bad
    simp only [cOp_is, cDo_is, cCond_is, cSeq_is, cBlock_is, cNorm_is, cRet_is, cExit_is, opX_ok, doX_ok, condX_true, condX_false, seqX_norm, seqX_exit, seqX_ret, blockX_norm, blockX_ret, blockX_exit, oMove_is, kV_is, slot_set, Nat.reduceLT, Nat.reduceEqDiff, if_true, if_false, reduceIte, cG_is, guardX_tt, guardX_tf, guardX_ft, guardX_ff, guardX_none, skipC_is, oPick_is, pickR_true, pickR_false, oCmp_is, cmpR_is, s4, s5, s2, g1, oBuild_is, zero23, fillL_nil, oStore_is, st0, leave_ret, finish_cN, oLoadN_is, loadsR_is, ld0, finR_ok]
  rw [decide_eq_false hA] at g1
  by_cases hB : 1099511627776 < q
  · have hno : ¬ okH (p : Int) (q : Int) := by unfold okH; omega
    rw [decide_eq_true hB] at g2
    rw [if_neg hno]
    refine ⟨_, ?_, x2⟩
    unfold bad
    simp only [cOp_is, cDo_is, cCond_is, cSeq_is, cBlock_is, cNorm_is, cRet_is, cExit_is, opX_ok, doX_ok, condX_true, condX_false, seqX_norm, seqX_exit, seqX_ret, blockX_norm, blockX_ret, blockX_exit, oMove_is, kV_is, slot_set, Nat.reduceLT, Nat.reduceEqDiff, if_true, if_false, reduceIte, cG_is, guardX_tt, guardX_tf, guardX_ft, guardX_ff, guardX_none, skipC_is, oPick_is, pickR_true, pickR_false, oCmp_is, cmpR_is, s4, s5, s2, g1, g2, oBuild_is, zero23, fillL_nil, oStore_is, st0, leave_ret, finish_cN, oLoadN_is, loadsR_is, ld0, finR_ok]
  rw [decide_eq_false hB] at g2
  have w1 : IntKind.i64.wrap (p : Int) = (p : Int) := wrap_nat (by omega)
  have w2 : IntKind.i64.wrap (q : Int) = (q : Int) := wrap_nat (by omega)
  have W1 := x1.wf
  have x3 := x1.push (.cells zt23 2 0)
  have R3 : (h1.push (.cells zt23 2 0)).Row h1.next 0 [.int .i64 0, .int .i64 0] := Hp.Row.alloc W1 zt23_is rfl
  have P3 := R.push W1 (.cells zt23 2 0)
  have hal2 := fun (e : Env) => oAlloc_is (F := call bodies (n + 1)) (e := e) (n := 2) (t := zt23) W1
  generalize hg2 : h1.push (.cells zt23 2 0) = h2 at x3 R3 P3 hal2
  have st1 := R3.storeR (n := 2) (off := 0) x3.wf (v := .agg ⟨[.int .i64 (p : Int), .int .i64 (q : Int)]⟩) rfl (by simp [cells_agg]) rfl
  rw [cells_agg] at st1
  have R4 := R3.wr_self x3.wf (off := 0) (vs := [.int .i64 (p : Int), .int .i64 (q : Int)]) (by simp)
  have P4 := R3.wr_other x3.wf (off := 0) (vs := [.int .i64 (p : Int), .int .i64 (q : Int)]) (by simp) P3 (by omega)
  have x4 := R3.wr_ext x3 (by omega) (off := 0) (vs := [.int .i64 (p : Int), .int .i64 (q : Int)]) (by simp)
  generalize hg4 : h2.wr h1.next 0 [.int .i64 (p : Int), .int .i64 (q : Int)] = h4 at st1 R4 P4 x4
  have R4 : h4.Row h1.next 0 [.int .i64 (p : Int), .int .i64 (q : Int)] := R4
  have ld1 : loadN 2 ⟨h1.next, 0, none⟩ h4 = .ok (.agg ⟨[.int .i64 (p : Int), .int .i64 (q : Int)]⟩) _ := R4.loadN (by simp)
  have cr := right_is (n := n) x4.wf p q
  have x5 := x4.pushRow 0 [.int .i64 (p : Int), .int .i64 (q : Int)]
  have R5 := R4.push x4.wf (.cells (ofL [.int .i64 (p : Int), .int .i64 (q : Int)]) 2 0)
  have P5 := P4.push x4.wf (.cells (ofL [.int .i64 (p : Int), .int .i64 (q : Int)]) 2 0)
  generalize hg5 : h4.pushRow 0 [.int .i64 (p : Int), .int .i64 (q : Int)] = h5 at cr x5
  have R5 : h5.Row h1.next 0 [.int .i64 (p : Int), .int .i64 (q : Int)] := hg5 ▸ R5
  have P5 : h5.Row h.next 0 [.int .i64 0, .int .i64 0] := hg5 ▸ P5
  by_cases hok : okH (p : Int) (q : Int)
  · rw [isOk hok] at cr
    rw [if_pos hok]
    have ld5 : loadN 2 ⟨h1.next, 0, none⟩ h5 = .ok (.agg ⟨[.int .i64 (p : Int), .int .i64 (q : Int)]⟩) _ := R5.loadN (by simp)
    have st5 := P5.storeR (n := 2) (off := 0) x5.wf (v := .agg ⟨[.int .i64 (p : Int), .int .i64 (q : Int)]⟩) rfl (by simp [cells_agg]) rfl
    rw [cells_agg] at st5
    have R6 := P5.wr_self x5.wf (off := 0) (vs := [.int .i64 (p : Int), .int .i64 (q : Int)]) (by simp)
    have ld6 : loadN 2 ⟨h.next, 0, none⟩ (h5.wr h.next 0 [.int .i64 (p : Int), .int .i64 (q : Int)]) = .ok (.agg ⟨[.int .i64 (p : Int), .int .i64 (q : Int)]⟩) _ := R6.loadN (by simp [over])
    refine ⟨_, ?_, P5.wr_ext x5 (Nat.le_refl _) (off := 0) (vs := [.int .i64 (p : Int), .int .i64 (q : Int)]) (by simp)⟩
    simp only [cOp_is, cDo_is, cCond_is, cSeq_is, cBlock_is, cNorm_is, cRet_is, cExit_is, opX_ok, doX_ok, condX_true, condX_false, seqX_norm, seqX_exit, seqX_ret, blockX_norm, blockX_ret, blockX_exit, oMove_is, kV_is, slot_set, Nat.reduceLT, Nat.reduceEqDiff, if_true, if_false, reduceIte, cG_is, guardX_tt, guardX_tf, guardX_ft, guardX_ff, guardX_none, skipC_is, oPick_is, pickR_true, pickR_false, oCmp_is, cmpR_is, s4, s5, s2, g1, g2, oConv_is, convR_is, w1, w2, oBuild_is, zero23, fillL_nil, fillL_cons, cells_int, List.length_cons, List.length_nil, Nat.zero_add, Nat.reduceAdd, Nat.reduceLeDiff, over_two0, over_two1, hal2, oStore_is, st1, oLoadN_is, loadsR_is, ld1, oCall_is, vals_cons, vals_nil, cr, oNot_is, notR_is, Bool.not_true, ld5, st5, leave_ret, finish_cN, ld6, finR_ok]
  · rw [notOk hok] at cr
    rw [if_neg hok]
    have st5 := P5.storeR (n := 2) (off := 0) x5.wf (v := .agg ⟨[.int .i64 0, .int .i64 0]⟩) rfl (by simp [cells_agg]) rfl
    rw [cells_agg] at st5
    have R6 := P5.wr_self x5.wf (off := 0) (vs := [.int .i64 0, .int .i64 0]) (by simp)
    have ld6 : loadN 2 ⟨h.next, 0, none⟩ (h5.wr h.next 0 [.int .i64 0, .int .i64 0]) = .ok (.agg ⟨[.int .i64 0, .int .i64 0]⟩) _ := R6.loadN (by simp [over])
    refine ⟨_, ?_, P5.wr_ext x5 (Nat.le_refl _) (off := 0) (vs := [.int .i64 0, .int .i64 0]) (by simp)⟩
    unfold bad
    simp only [cOp_is, cDo_is, cCond_is, cSeq_is, cBlock_is, cNorm_is, cRet_is, cExit_is, opX_ok, doX_ok, condX_true, condX_false, seqX_norm, seqX_exit, seqX_ret, blockX_norm, blockX_ret, blockX_exit, oMove_is, kV_is, slot_set, Nat.reduceLT, Nat.reduceEqDiff, if_true, if_false, reduceIte, cG_is, guardX_tt, guardX_tf, guardX_ft, guardX_ff, guardX_none, skipC_is, oPick_is, pickR_true, pickR_false, oCmp_is, cmpR_is, s4, s5, s2, g1, g2, oConv_is, convR_is, w1, w2, oBuild_is, zero23, fillL_nil, fillL_cons, cells_int, List.length_cons, List.length_nil, Nat.zero_add, Nat.reduceAdd, Nat.reduceLeDiff, over_two0, over_two1, hal2, oStore_is, st1, oLoadN_is, loadsR_is, ld1, oCall_is, vals_cons, vals_nil, cr, oNot_is, notR_is, Bool.not_false, st5, leave_ret, finish_cN, ld6, finR_ok]
end Go.Proofs.Ytadoagfabfcdbaa
set_option linter.unusedVariables false
set_option linter.unusedSimpArgs false
namespace Go.Proofs.Ytadoagfabfcdbaa
open Go
theorem num_lt2 {f : Nat → Nat} (hf : ∀ i, f i < 256) (h0 : f 0 ≤ 1) : ∀ k, num f (k + 1) < 2 * 256 ^ k
  | 0 => by show 0 * 256 + f 0 < 2 * 1; omega
  | k + 1 => by
    have := num_lt2 hf h0 k
    have := hf (k + 1)
    show num f (k + 1) * 256 + f (k + 1) < 2 * 256 ^ (k + 1)
    rw [Nat.pow_succ]; omega
theorem num_small {f : Nat → Nat} (hf : ∀ i, f i < 256) (h0 : f 0 ≤ 1) {k : Nat} (hk : k ≤ 7) : num f k < 2 * 256 ^ 6 := by
  cases k with
  | zero => show 0 < 2 * 256 ^ 6; omega
  | succ k =>
    have := num_lt2 hf h0 k
    have hp : 256 ^ k ≤ 256 ^ 6 := Nat.pow_le_pow_right (by omega) (by omega)
    omega
noncomputable def bodyD1 : C := (cOp (slotT 32) (oCmp iLt .i64 (slotG 5) (kV (.int .i64 4)))
(cCond (slotG 32)
(cSeq (cBlock 1 (cMark (cOp (slotT 35) (oFieldAddr 0 (slotG 4))
(cOp (slotT 36) (oLoad1 (slotG 35))
(cOp (slotT 37) (oAri Int.mul .i64 (slotG 36) (kV (.int .i64 256)))
(cOp (slotT 40) (oIdx 1 (slotG 0) (slotG 5))
(cOp (slotT 41) (oLoad1 (slotG 40))
(cOp (slotT 42) (oConv .i64 (slotG 41))
(cOp (slotT 43) (oAdd .i64 (topOf .i64) (slotG 37) (slotG 42))
(cOp (slotT 44) (oFieldAddr 0 (slotG 4))
(cDo (oQuiet .free (oStore 1 (slotG 44) (slotG 43)))
cNorm)))))))))))
(cOp (slotT 34) (oAdd .i64 (topOf .i64) (slotG 5) (kV (.int .i64 1)))
(cOp (slotT 5) (oMove (slotG 34))
cNorm)))
(cExit 0)))
theorem doc_round1 {F : CallF} {h0 g : Hp} {e : Env} {v p2 : Value} {l : List Nat} {i B A : Nat} (x : h0.Ext g) (Bs : g.Bytes v l) (hl : l.length = 12) (hb : ∀ x ∈ l, x < 256) (hf0 : byt l 0 0 ≤ 1) (hi : i < 4) (R : g.Row B 0 [.int .i64 ((num (byt l 0) i : Nat) : Int), .int .i64 0]) (hB : h0.next ≤ B) (Bs0 : h0.Bytes v l) (W0 : h0.Wf)
    (s0 : slotG 5 e = .int .i64 ((0 + i : Nat) : Int)) (s1 : slotG 0 e = v) (s4 : slotG 4 e = .pointer (some ⟨B, 0, none⟩)) (s2 : slotG 2 e = p2) :
    ∃ e' g', bodyD1 F e g = .norm e' g' ∧ h0.Ext g' ∧ g'.Row B 0 [.int .i64 ((num (byt l 0) (i + 1) : Nat) : Int), .int .i64 0] ∧ slotG 5 e' = .int .i64 ((0 + (i + 1) : Nat) : Int) ∧ slotG 0 e' = v ∧ slotG 4 e' = .pointer (some ⟨B, 0, none⟩) ∧ slotG 2 e' = p2 := by
  have c1 : iLt ((0 + i : Nat) : Int) 4 = true := by rw [iLt_is]; simp; omega
  have Rm : g.marked.Row B 0 [.int .i64 ((num (byt l 0) i : Nat) : Int), .int .i64 0] := R.same rfl
  have l0 : load1 ⟨B, 0, none⟩ g.marked = .ok (.int .i64 (num (byt l 0) i : Nat)) _ := Rm.load1 (by simp)
  have hsm := num_small (byt_lt hb 0) hf0 (k := i) (by omega)
  have hbt' := byt_lt hb 0 i
  have e6 : (256:Nat)^6 = 281474976710656 := rfl
  have c2 : IntKind.i64.wrap (Int.mul ((num (byt l 0) i : Nat) : Int) 256) = ((num (byt l 0) i * 256 : Nat) : Int) := by
    have e1 : Int.mul ((num (byt l 0) i : Nat) : Int) 256 = ((num (byt l 0) i * 256 : Nat) : Int) := by show ((num (byt l 0) i : Nat) : Int) * 256 = _; omega
    rw [e1]; exact wrap_nat (by omega)
  have Bm : g.marked.Bytes v l := (Bs0.ext W0 x.marked)
  obtain ⟨a, c3, c4⟩ := Bm.at (i := 0 + i) (by omega)
  have hbt : l.getD (0 + i) 0 = byt l 0 i := rfl
  rw [hbt] at c4
  have c4' : loadR (.pointer (some a)) g.marked = .ok (.int .u8 ((byt l 0 i : Nat) : Int)) g.marked := c4
  have c5 : IntKind.i64.wrap ((byt l 0 i : Nat) : Int) = ((byt l 0 i : Nat) : Int) := wrap_nat (by omega)
  have c6 : IntKind.i64.wrap (((num (byt l 0) i * 256 : Nat) : Int) + ((byt l 0 i : Nat) : Int)) = ((num (byt l 0) (i + 1) : Nat) : Int) := wrap_nat (n := num (byt l 0) i * 256 + byt l 0 i) (by omega)
  have c7 : IntKind.i64.wrap (((0 + i : Nat) : Int) + 1) = ((0 + (i + 1) : Nat) : Int) := wrap_nat (n := 0 + i + 1) (by omega)
  have Rq : g.marked.quiet.Row B 0 [.int .i64 ((num (byt l 0) i : Nat) : Int), .int .i64 0] := R.same rfl
  have st := Rq.storeR (n := 1) (off := 0) x.marked.quiet.wf (v := .int .i64 ((num (byt l 0) (i + 1) : Nat) : Int)) rfl (by simp [cells_int]) rfl
  rw [cells_int] at st
  have R2 := Rq.wr_self x.marked.quiet.wf (off := 0) (vs := [.int .i64 ((num (byt l 0) (i + 1) : Nat) : Int)]) (by simp)
  have x2 := Rq.wr_ext x.marked.quiet hB (off := 0) (vs := [.int .i64 ((num (byt l 0) (i + 1) : Nat) : Int)]) (by simp)
  have q1 : ∀ e, slotG 44 e = .pointer (some ⟨B, 0, none⟩) → slotG 43 e = .int .i64 ((num (byt l 0) (i + 1) : Nat) : Int) → oQuiet .free (oStore 1 (slotG 44) (slotG 43)) F e g.marked = .ok noRes (g.marked.back (g.marked.quiet.wr B 0 [.int .i64 ((num (byt l 0) (i + 1) : Nat) : Int)])) := fun e h1 h2 => quiet_free (by rw [oStore_is, h1, h2]; exact st)
  have hrun : ∃ e', bodyD1 F e g = .norm e' (g.marked.back (g.marked.quiet.wr B 0 [.int .i64 ((num (byt l 0) (i + 1) : Nat) : Int)])) ∧ slotG 5 e' = .int .i64 ((0 + (i + 1) : Nat) : Int) ∧ slotG 0 e' = v ∧ slotG 4 e' = .pointer (some ⟨B, 0, none⟩) ∧ slotG 2 e' = p2 := by
    try simp only [Nat.zero_add] at s0
    try simp only [Nat.zero_add] at c1
    try simp only [Nat.zero_add] at c3
    try simp only [Nat.zero_add] at c7
    try simp only [Nat.zero_add]
    unfold bodyD1
    simp only [cOp_is, cDo_is, cCond_is, cSeq_is, cBlock_is, cNorm_is, cRet_is, cExit_is, opX_ok, doX_ok, condX_true, condX_false, seqX_norm, seqX_exit, seqX_ret, blockX_norm, blockX_ret, blockX_exit, oMove_is, kV_is, slot_set, Nat.reduceLT, Nat.reduceEqDiff, if_true, if_false, reduceIte, oCmp_is, cmpR_is, s0, s1, s4, c1, marked_is, oFieldAddr_is', fieldAR_is, Nat.zero_add, oLoad1_is, loadR_is, l0, oAri_is, ariR_is, c2, oIdx_is]
    simp only [cOp_is, cDo_is, cCond_is, cSeq_is, cBlock_is, cNorm_is, cRet_is, cExit_is, opX_ok, doX_ok, condX_true, condX_false, seqX_norm, seqX_exit, seqX_ret, blockX_norm, blockX_ret, blockX_exit, oMove_is, kV_is, slot_set, Nat.reduceLT, Nat.reduceEqDiff, if_true, if_false, reduceIte, c3, oLoad1_is]
    rw [loadR_is] at c4'
    simp only [cOp_is, cDo_is, cCond_is, cSeq_is, cBlock_is, cNorm_is, cRet_is, cExit_is, opX_ok, doX_ok, condX_true, condX_false, seqX_norm, seqX_exit, seqX_ret, blockX_norm, blockX_ret, blockX_exit, oMove_is, kV_is, slot_set, Nat.reduceLT, Nat.reduceEqDiff, if_true, if_false, reduceIte, loadR_is, c4', oConv_is, convR_is, c5, oAdd_is, addR_is, c6, oFieldAddr_is', fieldAR_is, s4, Nat.zero_add, q1, s0, c7]
    exact ⟨_, rfl, by simp only [slot_set, Nat.reduceLT, Nat.reduceEqDiff, if_true, if_false, reduceIte] <;> rfl, by simp only [slot_set, Nat.reduceLT, Nat.reduceEqDiff, if_true, if_false, reduceIte, s1], by simp only [slot_set, Nat.reduceLT, Nat.reduceEqDiff, if_true, if_false, reduceIte, s4], by simp only [slot_set, Nat.reduceLT, Nat.reduceEqDiff, if_true, if_false, reduceIte, s2]⟩
  obtain ⟨e', h1, h2, h3, h4, h5⟩ := hrun
  exact ⟨e', _, h1, x.marked.back2 x2, R2.same rfl, h2, h3, h4, h5⟩
theorem doc_loop1 {F : CallF} {h0 g : Hp} {e : Env} {v p2 : Value} {l : List Nat} {B A : Nat} (x : h0.Ext g) (hl : l.length = 12) (hb : ∀ x ∈ l, x < 256) (hf0 : byt l 0 0 ≤ 1) (R : g.Row B 0 [.int .i64 0, .int .i64 0]) (hB : h0.next ≤ B) (Bs0 : h0.Bytes v l) (W0 : h0.Wf)
    (s0 : slotG 5 e = .int .i64 ((0 : Nat) : Int)) (s1 : slotG 0 e = v) (s4 : slotG 4 e = .pointer (some ⟨B, 0, none⟩)) (s2 : slotG 2 e = p2) :
    ∃ e' g', cLoop bodyD1 F e g = .exit 0 e' g' ∧ h0.Ext g' ∧ g'.Row B 0 [.int .i64 ((num (byt l 0) 4 : Nat) : Int), .int .i64 0] ∧ slotG 0 e' = v ∧ slotG 4 e' = .pointer (some ⟨B, 0, none⟩) ∧ slotG 2 e' = p2 := by
  refine loop_run (I := fun i e g => i ≤ 4 ∧ h0.Ext g ∧ g.Row B 0 [.int .i64 ((num (byt l 0) i : Nat) : Int), .int .i64 0] ∧ slotG 5 e = .int .i64 ((0 + i : Nat) : Int) ∧ slotG 0 e = v ∧ slotG 4 e = .pointer (some ⟨B, 0, none⟩) ∧ slotG 2 e = p2)
    (Q := fun x => ∃ e' g', x = .exit 0 e' g' ∧ h0.Ext g' ∧ g'.Row B 0 [.int .i64 ((num (byt l 0) 4 : Nat) : Int), .int .i64 0] ∧ slotG 0 e' = v ∧ slotG 4 e' = .pointer (some ⟨B, 0, none⟩) ∧ slotG 2 e' = p2) 4 (by omega) (fun i e g ⟨hi, x, R, s0, s1, s4, s2⟩ => ?_) ⟨Nat.zero_le _, x, R, s0, s1, s4, s2⟩
  rcases Nat.lt_or_ge i 4 with hlt | hge
  · left
    obtain ⟨e', g', h1, h2, h3, h4, h5, h6, h7⟩ := doc_round1 (F := F) (A := A) x (Bs0.ext W0 x) hl hb hf0 hlt R hB Bs0 W0 s0 s1 s4 s2
    exact ⟨hlt, e', g', h1, by omega, h2, h3, h4, h5, h6, h7⟩
  · right
    have hik : i = 4 := by omega
    subst hik
    have c1 : iLt ((0 + 4 : Nat) : Int) 4 = false := by rw [iLt_is]; simp
    have hrun : bodyD1 F e g = .exit 0 (Env.set 32 (.bool false) e) g := by
      unfold bodyD1
      simp only [cOp_is, cDo_is, cCond_is, cSeq_is, cBlock_is, cNorm_is, cRet_is, cExit_is, opX_ok, doX_ok, condX_true, condX_false, seqX_norm, seqX_exit, seqX_ret, blockX_norm, blockX_ret, blockX_exit, oMove_is, kV_is, slot_set, Nat.reduceLT, Nat.reduceEqDiff, if_true, if_false, reduceIte, oCmp_is, cmpR_is, s0, c1]
    rw [hrun]
    exact ⟨rfl, _, _, rfl, x, R, by simp only [slot_set, Nat.reduceLT, Nat.reduceEqDiff, if_true, if_false, reduceIte]; exact s1, by simp only [slot_set, Nat.reduceLT, Nat.reduceEqDiff, if_true, if_false, reduceIte]; exact s4, by simp only [slot_set, Nat.reduceLT, Nat.reduceEqDiff, if_true, if_false, reduceIte]; exact s2⟩
noncomputable def bodyD2 : C := (cOp (slotT 46) (oCmp iLt .i64 (slotG 6) (kV (.int .i64 12)))
(cCond (slotG 46)
(cSeq (cBlock 3 (cMark (cOp (slotT 49) (oFieldAddr 1 (slotG 4))
(cOp (slotT 50) (oLoad1 (slotG 49))
(cOp (slotT 51) (oAri Int.mul .i64 (slotG 50) (kV (.int .i64 256)))
(cOp (slotT 54) (oIdx 1 (slotG 0) (slotG 6))
(cOp (slotT 55) (oLoad1 (slotG 54))
(cOp (slotT 56) (oConv .i64 (slotG 55))
(cOp (slotT 57) (oAdd .i64 (topOf .i64) (slotG 51) (slotG 56))
(cOp (slotT 58) (oFieldAddr 1 (slotG 4))
(cDo (oQuiet .free (oStore 1 (slotG 58) (slotG 57)))
cNorm)))))))))))
(cOp (slotT 48) (oAdd .i64 (topOf .i64) (slotG 6) (kV (.int .i64 1)))
(cOp (slotT 6) (oMove (slotG 48))
cNorm)))
(cExit 2)))
theorem doc_round2 {F : CallF} {h0 g : Hp} {e : Env} {v p2 : Value} {l : List Nat} {i B A : Nat} (x : h0.Ext g) (Bs : g.Bytes v l) (hl : l.length = 12) (hb : ∀ x ∈ l, x < 256) (hf0 : byt l 4 0 ≤ 1) (hi : i < 8) (R : g.Row B 0 [.int .i64 (A : Int), .int .i64 ((num (byt l 4) i : Nat) : Int)]) (hB : h0.next ≤ B) (Bs0 : h0.Bytes v l) (W0 : h0.Wf)
    (s0 : slotG 6 e = .int .i64 ((4 + i : Nat) : Int)) (s1 : slotG 0 e = v) (s4 : slotG 4 e = .pointer (some ⟨B, 0, none⟩)) (s2 : slotG 2 e = p2) :
    ∃ e' g', bodyD2 F e g = .norm e' g' ∧ h0.Ext g' ∧ g'.Row B 0 [.int .i64 (A : Int), .int .i64 ((num (byt l 4) (i + 1) : Nat) : Int)] ∧ slotG 6 e' = .int .i64 ((4 + (i + 1) : Nat) : Int) ∧ slotG 0 e' = v ∧ slotG 4 e' = .pointer (some ⟨B, 0, none⟩) ∧ slotG 2 e' = p2 := by
  have c1 : iLt ((4 + i : Nat) : Int) 12 = true := by rw [iLt_is]; simp; omega
  have Rm : g.marked.Row B 0 [.int .i64 (A : Int), .int .i64 ((num (byt l 4) i : Nat) : Int)] := R.same rfl
  have l0 : load1 ⟨B, 1, none⟩ g.marked = .ok (.int .i64 (num (byt l 4) i : Nat)) _ := Rm.load1 (by simp)
  have hsm := num_small (byt_lt hb 4) hf0 (k := i) (by omega)
  have hbt' := byt_lt hb 4 i
  have e6 : (256:Nat)^6 = 281474976710656 := rfl
  have c2 : IntKind.i64.wrap (Int.mul ((num (byt l 4) i : Nat) : Int) 256) = ((num (byt l 4) i * 256 : Nat) : Int) := by
    have e1 : Int.mul ((num (byt l 4) i : Nat) : Int) 256 = ((num (byt l 4) i * 256 : Nat) : Int) := by show ((num (byt l 4) i : Nat) : Int) * 256 = _; omega
    rw [e1]; exact wrap_nat (by omega)
  have Bm : g.marked.Bytes v l := (Bs0.ext W0 x.marked)
  obtain ⟨a, c3, c4⟩ := Bm.at (i := 4 + i) (by omega)
  have hbt : l.getD (4 + i) 0 = byt l 4 i := rfl
  rw [hbt] at c4
  have c4' : loadR (.pointer (some a)) g.marked = .ok (.int .u8 ((byt l 4 i : Nat) : Int)) g.marked := c4
  have c5 : IntKind.i64.wrap ((byt l 4 i : Nat) : Int) = ((byt l 4 i : Nat) : Int) := wrap_nat (by omega)
  have c6 : IntKind.i64.wrap (((num (byt l 4) i * 256 : Nat) : Int) + ((byt l 4 i : Nat) : Int)) = ((num (byt l 4) (i + 1) : Nat) : Int) := wrap_nat (n := num (byt l 4) i * 256 + byt l 4 i) (by omega)
  have c7 : IntKind.i64.wrap (((4 + i : Nat) : Int) + 1) = ((4 + (i + 1) : Nat) : Int) := wrap_nat (n := 4 + i + 1) (by omega)
  have Rq : g.marked.quiet.Row B 0 [.int .i64 (A : Int), .int .i64 ((num (byt l 4) i : Nat) : Int)] := R.same rfl
  have st := Rq.storeR (n := 1) (off := 1) x.marked.quiet.wf (v := .int .i64 ((num (byt l 4) (i + 1) : Nat) : Int)) rfl (by simp [cells_int]) rfl
  rw [cells_int] at st
  have R2 := Rq.wr_self x.marked.quiet.wf (off := 1) (vs := [.int .i64 ((num (byt l 4) (i + 1) : Nat) : Int)]) (by simp)
  have x2 := Rq.wr_ext x.marked.quiet hB (off := 1) (vs := [.int .i64 ((num (byt l 4) (i + 1) : Nat) : Int)]) (by simp)
  have q1 : ∀ e, slotG 58 e = .pointer (some ⟨B, 1, none⟩) → slotG 57 e = .int .i64 ((num (byt l 4) (i + 1) : Nat) : Int) → oQuiet .free (oStore 1 (slotG 58) (slotG 57)) F e g.marked = .ok noRes (g.marked.back (g.marked.quiet.wr B 1 [.int .i64 ((num (byt l 4) (i + 1) : Nat) : Int)])) := fun e h1 h2 => quiet_free (by rw [oStore_is, h1, h2]; exact st)
  have hrun : ∃ e', bodyD2 F e g = .norm e' (g.marked.back (g.marked.quiet.wr B 1 [.int .i64 ((num (byt l 4) (i + 1) : Nat) : Int)])) ∧ slotG 6 e' = .int .i64 ((4 + (i + 1) : Nat) : Int) ∧ slotG 0 e' = v ∧ slotG 4 e' = .pointer (some ⟨B, 0, none⟩) ∧ slotG 2 e' = p2 := by
    try simp only [Nat.zero_add] at s0
    try simp only [Nat.zero_add] at c1
    try simp only [Nat.zero_add] at c3
    try simp only [Nat.zero_add] at c7
    try simp only [Nat.zero_add]
    unfold bodyD2
    simp only [cOp_is, cDo_is, cCond_is, cSeq_is, cBlock_is, cNorm_is, cRet_is, cExit_is, opX_ok, doX_ok, condX_true, condX_false, seqX_norm, seqX_exit, seqX_ret, blockX_norm, blockX_ret, blockX_exit, oMove_is, kV_is, slot_set, Nat.reduceLT, Nat.reduceEqDiff, if_true, if_false, reduceIte, oCmp_is, cmpR_is, s0, s1, s4, c1, marked_is, oFieldAddr_is', fieldAR_is, Nat.zero_add, oLoad1_is, loadR_is, l0, oAri_is, ariR_is, c2, oIdx_is]
    simp only [cOp_is, cDo_is, cCond_is, cSeq_is, cBlock_is, cNorm_is, cRet_is, cExit_is, opX_ok, doX_ok, condX_true, condX_false, seqX_norm, seqX_exit, seqX_ret, blockX_norm, blockX_ret, blockX_exit, oMove_is, kV_is, slot_set, Nat.reduceLT, Nat.reduceEqDiff, if_true, if_false, reduceIte, c3, oLoad1_is]
    rw [loadR_is] at c4'
    simp only [cOp_is, cDo_is, cCond_is, cSeq_is, cBlock_is, cNorm_is, cRet_is, cExit_is, opX_ok, doX_ok, condX_true, condX_false, seqX_norm, seqX_exit, seqX_ret, blockX_norm, blockX_ret, blockX_exit, oMove_is, kV_is, slot_set, Nat.reduceLT, Nat.reduceEqDiff, if_true, if_false, reduceIte, loadR_is, c4', oConv_is, convR_is, c5, oAdd_is, addR_is, c6, oFieldAddr_is', fieldAR_is, s4, Nat.zero_add, q1, s0, c7]
    exact ⟨_, rfl, by simp only [slot_set, Nat.reduceLT, Nat.reduceEqDiff, if_true, if_false, reduceIte] <;> rfl, by simp only [slot_set, Nat.reduceLT, Nat.reduceEqDiff, if_true, if_false, reduceIte, s1], by simp only [slot_set, Nat.reduceLT, Nat.reduceEqDiff, if_true, if_false, reduceIte, s4], by simp only [slot_set, Nat.reduceLT, Nat.reduceEqDiff, if_true, if_false, reduceIte, s2]⟩
  obtain ⟨e', h1, h2, h3, h4, h5⟩ := hrun
  exact ⟨e', _, h1, x.marked.back2 x2, R2.same rfl, h2, h3, h4, h5⟩
theorem doc_loop2 {F : CallF} {h0 g : Hp} {e : Env} {v p2 : Value} {l : List Nat} {B A : Nat} (x : h0.Ext g) (hl : l.length = 12) (hb : ∀ x ∈ l, x < 256) (hf0 : byt l 4 0 ≤ 1) (R : g.Row B 0 [.int .i64 (A : Int), .int .i64 0]) (hB : h0.next ≤ B) (Bs0 : h0.Bytes v l) (W0 : h0.Wf)
    (s0 : slotG 6 e = .int .i64 ((4 : Nat) : Int)) (s1 : slotG 0 e = v) (s4 : slotG 4 e = .pointer (some ⟨B, 0, none⟩)) (s2 : slotG 2 e = p2) :
    ∃ e' g', cLoop bodyD2 F e g = .exit 2 e' g' ∧ h0.Ext g' ∧ g'.Row B 0 [.int .i64 (A : Int), .int .i64 ((num (byt l 4) 8 : Nat) : Int)] ∧ slotG 0 e' = v ∧ slotG 4 e' = .pointer (some ⟨B, 0, none⟩) ∧ slotG 2 e' = p2 := by
  refine loop_run (I := fun i e g => i ≤ 8 ∧ h0.Ext g ∧ g.Row B 0 [.int .i64 (A : Int), .int .i64 ((num (byt l 4) i : Nat) : Int)] ∧ slotG 6 e = .int .i64 ((4 + i : Nat) : Int) ∧ slotG 0 e = v ∧ slotG 4 e = .pointer (some ⟨B, 0, none⟩) ∧ slotG 2 e = p2)
    (Q := fun x => ∃ e' g', x = .exit 2 e' g' ∧ h0.Ext g' ∧ g'.Row B 0 [.int .i64 (A : Int), .int .i64 ((num (byt l 4) 8 : Nat) : Int)] ∧ slotG 0 e' = v ∧ slotG 4 e' = .pointer (some ⟨B, 0, none⟩) ∧ slotG 2 e' = p2) 8 (by omega) (fun i e g ⟨hi, x, R, s0, s1, s4, s2⟩ => ?_) ⟨Nat.zero_le _, x, R, s0, s1, s4, s2⟩
  rcases Nat.lt_or_ge i 8 with hlt | hge
  · left
    obtain ⟨e', g', h1, h2, h3, h4, h5, h6, h7⟩ := doc_round2 (F := F) (A := A) x (Bs0.ext W0 x) hl hb hf0 hlt R hB Bs0 W0 s0 s1 s4 s2
    exact ⟨hlt, e', g', h1, by omega, h2, h3, h4, h5, h6, h7⟩
  · right
    have hik : i = 8 := by omega
    subst hik
    have c1 : iLt ((4 + 8 : Nat) : Int) 12 = false := by rw [iLt_is]; simp
    have hrun : bodyD2 F e g = .exit 2 (Env.set 46 (.bool false) e) g := by
      unfold bodyD2
      simp only [cOp_is, cDo_is, cCond_is, cSeq_is, cBlock_is, cNorm_is, cRet_is, cExit_is, opX_ok, doX_ok, condX_true, condX_false, seqX_norm, seqX_exit, seqX_ret, blockX_norm, blockX_ret, blockX_exit, oMove_is, kV_is, slot_set, Nat.reduceLT, Nat.reduceEqDiff, if_true, if_false, reduceIte, oCmp_is, cmpR_is, s0, c1]
    rw [hrun]
    exact ⟨rfl, _, _, rfl, x, R, by simp only [slot_set, Nat.reduceLT, Nat.reduceEqDiff, if_true, if_false, reduceIte]; exact s1, by simp only [slot_set, Nat.reduceLT, Nat.reduceEqDiff, if_true, if_false, reduceIte]; exact s4, by simp only [slot_set, Nat.reduceLT, Nat.reduceEqDiff, if_true, if_false, reduceIte]; exact s2⟩
end Go.Proofs.Ytadoagfabfcdbaa
set_option linter.unusedVariables false
set_option linter.unusedSimpArgs false
namespace Go.Proofs.Ytadoagfabfcdbaa
open Go
theorem num_ge {f : Nat → Nat} : ∀ k, f 0 * 256 ^ k ≤ num f (k + 1)
  | 0 => by show f 0 * 1 ≤ 0 * 256 + f 0; omega
  | k + 1 => by
    have := num_ge (f := f) k
    show f 0 * 256 ^ (k + 1) ≤ num f (k + 1) * 256 + f (k + 1)
    rw [Nat.pow_succ, ← Nat.mul_assoc]; omega
theorem num_ge1 {f : Nat → Nat} : ∀ k, f 1 * 256 ^ k ≤ num f (k + 2)
  | 0 => by show f 1 * 1 ≤ (0 * 256 + f 0) * 256 + f 1; omega
  | k + 1 => by
    have := num_ge1 (f := f) k
    show f 1 * 256 ^ (k + 1) ≤ num f (k + 2) * 256 + f (k + 2)
    rw [Nat.pow_succ, ← Nat.mul_assoc]; omega
/-- the bytes of the numbers of bytes -/
theorem bytes_back {l : List Nat} (hl : l.length = 12) (hb : ∀ x ∈ l, x < 256) : numL (num (byt l 0) 4) 4 ++ numL (num (byt l 4) 8) 8 = l := by
  match l, hl, hb with
  | [a0, a1, a2, a3, a4, a5, a6, a7, a8, a9, a10, a11], _, hb =>
    simp only [List.mem_cons, List.not_mem_nil, or_false, forall_eq_or_imp, forall_eq] at hb
    obtain ⟨b0, b1, b2, b3, b4, b5, b6, b7, b8, b9, b10, b11⟩ := hb
    simp only [numL, num, byt, Nat.zero_add, List.getD_cons_zero, List.getD_cons_succ, Nat.reduceAdd, List.cons_append, List.nil_append, List.cons.injEq, Nat.reducePow, Nat.zero_mul, and_true, Nat.pow_zero, Nat.div_one]
    refine ⟨?_, ?_, ?_, ?_, ?_, ?_, ?_, ?_, ?_, ?_, ?_, ?_⟩ <;> omega
theorem read2_len {n : Nat} {h : Hp} (W : h.Wf) {v : Value} {l : List Nat} (B : h.Bytes v l) (hl : l.length ≠ 12) : ∃ h', call bodies (n + 3) 9 [v] h = .ok bad h' ∧ h.Ext h' := by
  have x1 := (Hp.Ext.refl W).push (.cells zt23 2 0)
  have R : (h.push (.cells zt23 2 0)).Row h.next 0 [.int .i64 0, .int .i64 0] := Hp.Row.alloc W zt23_is rfl
  have B1 := B.ext W x1
  have st0 := R.storeR (n := 2) (off := 0) x1.wf (v := .agg ⟨[.int .i64 0, .int .i64 0]⟩) rfl (by simp [cells_agg]) rfl
  have R2 := R.wr_self x1.wf (off := 0) (vs := [.int .i64 0, .int .i64 0]) (by simp)
  have ld0 : loadN 2 ⟨h.next, 0, none⟩ ((h.push (.cells zt23 2 0)).wr h.next 0 [.int .i64 0, .int .i64 0]) = .ok (.agg ⟨[.int .i64 0, .int .i64 0]⟩) _ := R2.loadN (by simp [over])
  have c0 : (!((l.length : Int) == 12)) = true := by simp; omega
  refine ⟨_, ?_, R.wr_ext x1 (Nat.le_refl _) (off := 0) (vs := [.int .i64 0, .int .i64 0]) (by simp)⟩
  rw [call9 rfl]
  unfold d9 bad
  rw [cells_agg] at st0
  simp only [setArgs_cons, setArgs_nil, Nat.succ_eq_add_one, Nat.zero_add, Nat.reduceAdd, cOp_is, cDo_is, cCond_is, cSeq_is, cBlock_is, cNorm_is, cRet_is, cExit_is, opX_ok, doX_ok, condX_true, condX_false, seqX_norm, seqX_exit, seqX_ret, blockX_norm, blockX_ret, blockX_exit, oMove_is, kV_is, slot_set, Nat.reduceLT, Nat.reduceEqDiff, if_true, if_false, reduceIte, cG_is, guardX_tt, guardX_tf, guardX_ft, guardX_ff, guardX_none, skipC_is, oPick_is, pickR_true, pickR_false, oAlloc_is W, oLenS_is, B1.len, oCmp_is, cmpR_is, iNe_is, c0, oBuild_is, zero23, fillL_nil, oStore_is, st0, oLoadN_is, loadsR_is, finish_cN, finR_ok, leave_ret, ld0]
theorem read2_is {n : Nat} {h : Hp} (W : h.Wf) {v : Value} {l : List Nat} (B : h.Bytes v l) (hl : l.length = 12) (hb : ∀ x ∈ l, x < 256) :
    ∃ h', call bodies (n + 3) 9 [v] h = .ok (if okH (num (byt l 0) 4 : Nat) (num (byt l 4) 8 : Nat) then .tuple ⟨[.agg ⟨[.int .i64 (num (byt l 0) 4 : Nat), .int .i64 (num (byt l 4) 8 : Nat)]⟩, .int .i64 0]⟩ else bad) h' ∧ h.Ext h' := by
  have hback := bytes_back hl hb
  have k4 := num_ge (f := byt l 4) 7
  have k5 := num_ge1 (f := byt l 4) 6
  have k0 := num_ge (f := byt l 0) 3
  have e7 : (256:Nat)^7 = 72057594037927936 := rfl
  have e6 : (256:Nat)^6 = 281474976710656 := rfl
  have e3 : (256:Nat)^3 = 16777216 := rfl
  generalize hp : num (byt l 0) 4 = p at hback k0
  generalize hq : num (byt l 4) 8 = q at hback k4 k5
  have x1 := (Hp.Ext.refl W).push (.cells zt23 2 0)
  have R : (h.push (.cells zt23 2 0)).Row h.next 0 [.int .i64 0, .int .i64 0] := Hp.Row.alloc W zt23_is rfl
  have B1 := B.ext W x1
  have hnx : (h.push (.cells zt23 2 0)).next = h.next + 1 := rfl
  have hal := fun (e : Env) => oAlloc_is (F := call bodies (n + 2)) (e := e) (n := 2) (t := zt23) W
  generalize hg : h.push (.cells zt23 2 0) = h1 at x1 R B1 hal hnx
  have W1 := x1.wf
  have st0 := R.storeR (n := 2) (off := 0) x1.wf (v := .agg ⟨[.int .i64 0, .int .i64 0]⟩) rfl (by simp [cells_agg]) rfl
  rw [cells_agg] at st0
  have R2 := R.wr_self x1.wf (off := 0) (vs := [.int .i64 0, .int .i64 0]) (by simp)
  have ld0 : loadN 2 ⟨h.next, 0, none⟩ (h1.wr h.next 0 [.int .i64 0, .int .i64 0]) = .ok (.agg ⟨[.int .i64 0, .int .i64 0]⟩) _ := R2.loadN (by simp [over])
  have x2 := R.wr_ext x1 (Nat.le_refl _) (off := 0) (vs := [.int .i64 0, .int .i64 0]) (by simp)
  have c0 : (!((l.length : Int) == 12)) = false := by simp; omega
  obtain ⟨a4, i4, j4⟩ := B1.at (i := 4) (by omega)
  obtain ⟨a5, i5, j5⟩ := B1.at (i := 5) (by omega)
  obtain ⟨a0, i0, j0⟩ := B1.at (i := 0) (by omega)
  have j4 : loadR (.pointer (some a4)) h1 = .ok (.int .u8 ((byt l 4 0 : Nat) : Int)) h1 := j4
  have j5 : loadR (.pointer (some a5)) h1 = .ok (.int .u8 ((byt l 4 1 : Nat) : Int)) h1 := j5
  have j0 : loadR (.pointer (some a0)) h1 = .ok (.int .u8 ((byt l 0 0 : Nat) : Int)) h1 := j0
  have i4 : idxSR 1 v (.int .i64 4) h1 = .ok (.pointer (some a4)) h1 := i4
  have i5 : idxSR 1 v (.int .i64 5) h1 = .ok (.pointer (some a5)) h1 := i5
  have i0 : idxSR 1 v (.int .i64 0) h1 = .ok (.pointer (some a0)) h1 := i0
  have g4 : iGt ((byt l 4 0 : Nat) : Int) 1 = decide (1 < byt l 4 0) := by rw [iGt_is]; congr 1; simp; omega
  have g5 : iGt ((byt l 4 1 : Nat) : Int) 1 = decide (1 < byt l 4 1) := by rw [iGt_is]; congr 1; simp; omega
  have g0 : iGt ((byt l 0 0 : Nat) : Int) 1 = decide (1 < byt l 0 0) := by rw [iGt_is]; congr 1; simp; omega
  rw [call9 rfl]
  unfold d9
  by_cases h4 : 1 < byt l 4 0
  · have hno : ¬ okH (p : Int) (q : Int) := by unfold okH; omega
    rw [decide_eq_true h4] at g4
    rw [if_neg hno]
    refine ⟨_, ?_, x2⟩
    unfold bad
    simp only [setArgs_cons, setArgs_nil, Nat.succ_eq_add_one, Nat.zero_add, Nat.reduceAdd, cOp_is, cDo_is, cCond_is, cSeq_is, cBlock_is, cNorm_is, cRet_is, cExit_is, opX_ok, doX_ok, condX_true, condX_false, seqX_norm, seqX_exit, seqX_ret, blockX_norm, blockX_ret, blockX_exit, oMove_is, kV_is, slot_set, Nat.reduceLT, Nat.reduceEqDiff, if_true, if_false, reduceIte, cG_is, guardX_tt, guardX_tf, guardX_ft, guardX_ff, guardX_none, skipC_is, oPick_is, pickR_true, pickR_false, hal, oLenS_is, B1.len, oCmp_is, cmpR_is, iNe_is, c0, oIdx_is, i4, oLoad1_is, j4, g4, oBuild_is, zero23, fillL_nil, oStore_is, st0, oLoadN_is, loadsR_is, finish_cN, finR_ok, leave_ret, ld0]
  rw [decide_eq_false h4] at g4
  by_cases h5 : 1 < byt l 4 1
  · have hno : ¬ okH (p : Int) (q : Int) := by unfold okH; omega
    rw [decide_eq_true h5] at g5
    rw [if_neg hno]
    refine ⟨_, ?_, x2⟩
    unfold bad
    simp only [setArgs_cons, setArgs_nil, Nat.succ_eq_add_one, Nat.zero_add, Nat.reduceAdd, cOp_is, cDo_is, cCond_is, cSeq_is, cBlock_is, cNorm_is, cRet_is, cExit_is, opX_ok, doX_ok, condX_true, condX_false, seqX_norm, seqX_exit, seqX_ret, blockX_norm, blockX_ret, blockX_exit, oMove_is, kV_is, slot_set, Nat.reduceLT, Nat.reduceEqDiff, if_true, if_false, reduceIte, cG_is, guardX_tt, guardX_tf, guardX_ft, guardX_ff, guardX_none, skipC_is, oPick_is, pickR_true, pickR_false, hal, oLenS_is, B1.len, oCmp_is, cmpR_is, iNe_is, c0, oIdx_is, i4, oLoad1_is, j4, g4, i5, j5, g5, oBuild_is, zero23, fillL_nil, oStore_is, st0, oLoadN_is, loadsR_is, finish_cN, finR_ok, leave_ret, ld0]
  rw [decide_eq_false h5] at g5
  by_cases h0 : 1 < byt l 0 0
  · have hno : ¬ okH (p : Int) (q : Int) := by unfold okH; omega
    rw [decide_eq_true h0] at g0
    rw [if_neg hno]
    refine ⟨_, ?_, x2⟩
    unfold bad
    simp only [setArgs_cons, setArgs_nil, Nat.succ_eq_add_one, Nat.zero_add, Nat.reduceAdd, cOp_is, cDo_is, cCond_is, cSeq_is, cBlock_is, cNorm_is, cRet_is, cExit_is, opX_ok, doX_ok, condX_true, condX_false, seqX_norm, seqX_exit, seqX_ret, blockX_norm, blockX_ret, blockX_exit, oMove_is, kV_is, slot_set, Nat.reduceLT, Nat.reduceEqDiff, if_true, if_false, reduceIte, cG_is, guardX_tt, guardX_tf, guardX_ft, guardX_ff, guardX_none, skipC_is, oPick_is, pickR_true, pickR_false, hal, oLenS_is, B1.len, oCmp_is, cmpR_is, iNe_is, c0, oIdx_is, i4, oLoad1_is, j4, g4, i5, j5, g5, i0, j0, g0, oBuild_is, zero23, fillL_nil, oStore_is, st0, oLoadN_is, loadsR_is, finish_cN, finR_ok, leave_ret, ld0]
  rw [decide_eq_false h0] at g0
  -- the two numbers
  have x3 := x1.push (.cells zt23 2 0)
  have R3 : (h1.push (.cells zt23 2 0)).Row h1.next 0 [.int .i64 0, .int .i64 0] := Hp.Row.alloc W1 zt23_is rfl
  have y3 := (Hp.Ext.refl W1).push (.cells zt23 2 0)
  have hal2 := fun (e : Env) => oAlloc_is (F := call bodies (n + 2)) (e := e) (n := 2) (t := zt23) W1
  generalize hg2 : h1.push (.cells zt23 2 0) = h2 at x3 R3 y3 hal2
  simp only [setArgs_cons, setArgs_nil, Nat.succ_eq_add_one, Nat.zero_add, Nat.reduceAdd]
  simp only [cOp_is, opX_ok, cCond_is, condX_true, condX_false, oMove_is, kV_is, cG_is, guardX_tt, guardX_tf, guardX_ft, guardX_ff, guardX_none, skipC_is, oPick_is, pickR_true, pickR_false, slot_set, Nat.reduceLT, Nat.reduceEqDiff, if_true, if_false, reduceIte, hal, oLenS_is, B1.len, oCmp_is, cmpR_is, iNe_is, c0, oIdx_is, i4, oLoad1_is, j4, g4, i5, j5, g5, i0, j0, g0, hal2]
  generalize hE : (Env.set 5 (Value.int .i64 0) _ : Env) = E1
  obtain ⟨e4, h4', a1, a2, a3, a5', a6, a7⟩ := doc_loop1 (F := call bodies (n + 2)) (e := E1) (A := 0) (p2 := .pointer (some ⟨h.next, 0, none⟩)) y3 hl hb (by omega) R3 (Nat.le_refl _) B1 W1 (by rw [← hE]; simp only [slot_set, Nat.reduceLT, Nat.reduceEqDiff, if_true, if_false, reduceIte] <;> rfl) (by rw [← hE]; simp only [slot_set, Nat.reduceLT, Nat.reduceEqDiff, if_true, if_false, reduceIte]) (by rw [← hE]; simp only [slot_set, Nat.reduceLT, Nat.reduceEqDiff, if_true, if_false, reduceIte]) (by rw [← hE]; simp only [slot_set, Nat.reduceLT, Nat.reduceEqDiff, if_true, if_false, reduceIte])
  obtain ⟨e5, h5', b1, b2, b3, b4, b5, b6⟩ := doc_loop2 (F := call bodies (n + 2)) (e := Env.set 6 (.int .i64 4) e4) (A := num (byt l 0) 4) (p2 := .pointer (some ⟨h.next, 0, none⟩)) a2 hl hb (by omega) a3 (Nat.le_refl _) B1 W1 (by simp only [slot_set, Nat.reduceLT, Nat.reduceEqDiff, if_true, if_false, reduceIte] <;> rfl) (by simp only [slot_set, Nat.reduceLT, Nat.reduceEqDiff, if_true, if_false, reduceIte]; exact a5') (by simp only [slot_set, Nat.reduceLT, Nat.reduceEqDiff, if_true, if_false, reduceIte]; exact a6) (by simp only [slot_set, Nat.reduceLT, Nat.reduceEqDiff, if_true, if_false, reduceIte]; exact a7)
  unfold bodyD1 at a1
  unfold bodyD2 at b1
  simp only [cSeq_is, cBlock_is, a1, blockX_exit, seqX_norm, cOp_is, oMove_is, opX_ok, kV_is, slot_set, Nat.reduceLT, Nat.reduceEqDiff, if_true, if_false, reduceIte, b1]
  rw [hp, hq] at b3
  have z2 := x1.trans b2
  have R5 := (R.ext W1 b2)
  have ld1 : loadN 2 ⟨h1.next, 0, none⟩ h5' = .ok (.agg ⟨[.int .i64 (p : Int), .int .i64 (q : Int)]⟩) _ := b3.loadN (by simp)
  by_cases hok : okH (p : Int) (q : Int)
  · obtain ⟨h6, v6, m1, m2, m3⟩ := make2_ok (n := n) z2.wf hok
    rw [hback] at m3
    rw [if_pos hok]
    have B6 := B1.ext W1 (b2.trans m2)
    have R6 := R5.ext z2.wf m2
    have z6 := z2.trans m2
    have ld6 : loadN 2 ⟨h1.next, 0, none⟩ h6 = .ok (.agg ⟨[.int .i64 (p : Int), .int .i64 (q : Int)]⟩) _ := (b3.ext z2.wf m2).loadN (by simp)
    have st6 := R6.storeR (n := 2) (off := 0) z6.wf (v := .agg ⟨[.int .i64 (p : Int), .int .i64 (q : Int)]⟩) rfl (by simp [cells_agg]) rfl
    rw [cells_agg] at st6
    have R7 := R6.wr_self z6.wf (off := 0) (vs := [.int .i64 (p : Int), .int .i64 (q : Int)]) (by simp)
    have ld7 : loadN 2 ⟨h.next, 0, none⟩ (h6.wr h.next 0 [.int .i64 (p : Int), .int .i64 (q : Int)]) = .ok (.agg ⟨[.int .i64 (p : Int), .int .i64 (q : Int)]⟩) _ := R7.loadN (by simp [over])
    refine ⟨_, ?_, R6.wr_ext z6 (Nat.le_refl _) (off := 0) (vs := [.int .i64 (p : Int), .int .i64 (q : Int)]) (by simp)⟩
    have cs : (!bEq (l.map UInt8.ofNat) (l.map UInt8.ofNat)) = false := by rw [bEq_is]; simp
    have cz : iNe 0 0 = false := rfl
    simp only [cOp_is, cDo_is, cCond_is, cSeq_is, cBlock_is, cNorm_is, cRet_is, cExit_is, opX_ok, doX_ok, condX_true, condX_false, seqX_norm, seqX_exit, seqX_ret, blockX_norm, blockX_ret, blockX_exit, oMove_is, kV_is, slot_set, Nat.reduceLT, Nat.reduceEqDiff, if_true, if_false, reduceIte, cG_is, guardX_tt, guardX_tf, guardX_ft, guardX_ff, guardX_none, skipC_is, oPick_is, pickR_true, pickR_false, b2, b4, b5, b6, oLoadN_is, loadsR_is, ld1, oCall_is, vals_cons, vals_nil, m1, oExtract_is, extractR_0, extractR_1, oCmp_is, cmpR_is, cz, oToStr_is, m3.str, B6.str, oStr_is, eqSR_is, cs, ld6, oStore_is, st6, leave_ret, finish_cN, ld7, finR_ok]
  · obtain ⟨h6, m1, m2⟩ := make2_no (n := n) z2.wf hok
    rw [if_neg hok]
    have R6 := R5.ext z2.wf m2
    have z6 := z2.trans m2
    have st6 := R6.storeR (n := 2) (off := 0) z6.wf (v := .agg ⟨[.int .i64 0, .int .i64 0]⟩) rfl (by simp [cells_agg]) rfl
    rw [cells_agg] at st6
    have R7 := R6.wr_self z6.wf (off := 0) (vs := [.int .i64 0, .int .i64 0]) (by simp)
    have ld7 : loadN 2 ⟨h.next, 0, none⟩ (h6.wr h.next 0 [.int .i64 0, .int .i64 0]) = .ok (.agg ⟨[.int .i64 0, .int .i64 0]⟩) _ := R7.loadN (by simp [over])
    refine ⟨_, ?_, R6.wr_ext z6 (Nat.le_refl _) (off := 0) (vs := [.int .i64 0, .int .i64 0]) (by simp)⟩
    have cz : iNe 170 0 = true := rfl
    unfold bad
    simp only [cOp_is, cDo_is, cCond_is, cSeq_is, cBlock_is, cNorm_is, cRet_is, cExit_is, opX_ok, doX_ok, condX_true, condX_false, seqX_norm, seqX_exit, seqX_ret, blockX_norm, blockX_ret, blockX_exit, oMove_is, kV_is, slot_set, Nat.reduceLT, Nat.reduceEqDiff, if_true, if_false, reduceIte, cG_is, guardX_tt, guardX_tf, guardX_ft, guardX_ff, guardX_none, skipC_is, oPick_is, pickR_true, pickR_false, b2, b4, b5, b6, oLoadN_is, loadsR_is, ld1, oCall_is, vals_cons, vals_nil, m1, oExtract_is, extractR_0, extractR_1, oCmp_is, cmpR_is, cz, oBuild_is, zero23, fillL_nil, oStore_is, st6, leave_ret, finish_cN, ld7, finR_ok]
end Go.Proofs.Ytadoagfabfcdbaa

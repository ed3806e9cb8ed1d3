/-
  'Begin' of a run of stripes that are all taken: its second loop, whose rows grow round by round, by induction.
  'Begin' of ten thousand stripes and of one more, whole: the pieces of the run that its loops make too great for one reckoning.
-/
import Derived.Test.YtkafejncffinmaaSymL
import Derived.Test.YtkafejncffinmaaLits
import Derived.Test.YtkafejncffinmaaBodies
import Derived.Test.YtkafejncffinmaaMoveNumbersM1
set_option linter.unusedVariables false
set_option linter.unusedSimpArgs false
namespace Go.Proofs.Ytkafejncffinmaa.moveNumbers
open Go
noncomputable def bodyB : C := (cOp (slotT 54) (oCmp iLt .i64 (slotG 53) (slotG 52))
(cCond (slotG 54)
(cSeq (cBlock 3 (cOp (slotT 55) (oIdx 1 (slotG 51) (slotG 53))
(cOp (slotT 56) (oLoad1 (slotG 55))
(cOp (slotT 19) (oMove (slotG 56))
(cOp (slotT 60) (oLenS (slotG 0))
(cOp (slotT 61) (oRem .i64 (slotG 19) (slotG 60))
(cOp (slotT 62) (oLookup ⟨false, [.i .i64]⟩ (.int .i64 0) false (slotG 14) (slotG 61))
(cOp (slotT 63) (oCmp iEq .i64 (slotG 62) (kV (.int .i64 0)))
(cCond (slotG 63)
(cExit 3)
(cOp (slotT 64) (oFieldAddr 2 (slotG 17))
(cOp (slotT 65) (oLoad1 (slotG 64))
(cOp (slotT 66) (oLenS (slotG 65))
(cOp (slotT 67) (oCmp iGe .i64 (slotG 66) (kV (.int .i64 10000)))
(cCond (slotG 67)
(cOp (slotT 68) (oBuild ty31.zero [])
(cOp (slotT 8) (oMove (kV (.slice none 0 0)))
(cDo (oStore 3 (slotG 9) (slotG 68))
(cOp (slotT 10) (oMove (kV (.int .i64 5)))
cRet))))
(cOp (slotT 69) (oFieldAddr 2 (slotG 17))
(cOp (slotT 70) (oLoad1 (slotG 69))
(cOp (slotT 72) (oBuildSlice 1 (repL ty3.zero 1) [(0, 1, (slotG 19))])
(cOp (slotT 73) (oAppend 1 8 3 (slotG 70) (slotG 72))
(cOp (slotT 74) (oFieldAddr 2 (slotG 17))
(cDo (oStore 1 (slotG 74) (slotG 73))
cNorm))))))))))))))))))))
(cOp (slotT 75) (oAdd .i64 (topOf .i64) (slotG 53) (kV (.int .i64 1)))
(cOp (slotT 53) (oMove (slotG 75))
cNorm)))
(cExit 2)))
noncomputable def restB : C := (cSeq (cBlock 2 (cLoop bodyB))
(cMark (cOp (slotT 77) (oLoadN 3 (slotG 17))
(cOp (slotT 8) (oMove (slotG 11))
(cDo (oQuiet .free (oStore 3 (slotG 9) (slotG 77)))
(cOp (slotT 10) (oMove (kV (.int .i64 0)))
cRet))))))
noncomputable def preB : C := (cOp (slotT 8) (oMove (kV (.slice none 0 0)))
(cOp (slotT 9) (oAlloc 3 zt31)
(cOp (slotT 10) (oMove (kV (.int .i64 0)))
(cOp (slotT 24) (oCall 29 [(slotG 0), (slotG 1), (slotG 2)])
(cOp (slotT 25) (oExtract 0 (slotG 24))
(cOp (slotT 26) (oExtract 1 (slotG 24))
(cOp (slotT 27) (oExtract 2 (slotG 24))
(cOp (slotT 11) (oMove (slotG 25))
(cOp (slotT 12) (oMove (slotG 26))
(cOp (slotT 13) (oMove (slotG 27))
(cOp (slotT 29) (oCmp iNe .i64 (slotG 13) (kV (.int .i64 0)))
(cCond (slotG 29)
(cOp (slotT 30) (oBuild ty31.zero [])
(cOp (slotT 8) (oMove (kV (.slice none 0 0)))
(cDo (oStore 3 (slotG 9) (slotG 30))
(cOp (slotT 10) (oMove (slotG 13))
cRet))))
(cOp (slotT 33) (oCall 30 [(slotG 3)])
(cOp (slotT 34) (oNot (slotG 33))
(cCond (slotG 34)
(cOp (slotT 35) (oBuild ty31.zero [])
(cOp (slotT 8) (oMove (kV (.slice none 0 0)))
(cDo (oStore 3 (slotG 9) (slotG 35))
(cOp (slotT 10) (oMove (kV (.int .i64 2)))
cRet))))
(cOp (slotT 36) oMap
(cOp (slotT 14) (oMove (slotG 36))
(cOp (slotT 37) (oMove (slotG 12))
(cOp (slotT 38) (oLenS (slotG 37))
(cOp (slotT 39) (oMove (kV (.int .i64 0)))
(cSeq (cBlock 0 (cLoop (cOp (slotT 40) (oCmp iLt .i64 (slotG 39) (slotG 38))
(cCond (slotG 40)
(cSeq (cBlock 1 (cOp (slotT 41) (oIdx 1 (slotG 37) (slotG 39))
(cOp (slotT 42) (oLoad1 (slotG 41))
(cOp (slotT 16) (oMove (slotG 42))
(cOp (slotT 45) (oLookup ⟨false, [.i .i64]⟩ (.int .i64 0) false (slotG 14) (slotG 16))
(cOp (slotT 46) (oAdd .i64 (topOf .i64) (slotG 45) (kV (.int .i64 1)))
(cDo (oUpdate ⟨false, [.i .i64]⟩ (slotG 14) (slotG 16) (slotG 46))
cNorm)))))))
(cOp (slotT 47) (oAdd .i64 (topOf .i64) (slotG 39) (kV (.int .i64 1)))
(cOp (slotT 39) (oMove (slotG 47))
cNorm)))
(cExit 0)))))
(cOp (slotT 50) (oBuild ty31.zero [(0, 1, (slotG 1)), (1, 1, (slotG 2))])
(cOp (slotT 17) (oAlloc 3 zt31)
(cDo (oStore 3 (slotG 17) (slotG 50))
(cOp (slotT 51) (oMove (slotG 3))
(cOp (slotT 52) (oLenS (slotG 51))
(cOp (slotT 53) (oMove (kV (.int .i64 0)))
cNorm)))))))))))))))))))))))))))
/-! ### appends of one cell -/
section
variable {F : CallF} {e : Env} {h h' : Hp}
theorem src1 {T : Nat} {v : Value} (r : h.Row T 0 [v]) (k : List Value → R) : srcCells h 1 (.slice (some ⟨T, 0, none⟩) 1 1) 1 k = k [v] := by
  have := r.src (off := 0) (n := 1) (c := 1) (by simp) (sl := 1) (k := k)
  rw [this]; rfl
theorem app_nil {eb en T : Nat} {v : Value} (W : h.Wf) (r : h.Row T 0 [v]) (h1 : oneCell v = true) (hm : 2 * (eb + 1) ≤ 1099511627776) :
    appR 1 eb en (.slice none 0 0) (.slice (some ⟨T, 0, none⟩) 1 1) h = .ok (.slice (some ⟨h.next, 0, none⟩) 1 1) (h.pushRow (en + 1) [v]) := by
  have ho : allOne [v] = true := by show (bif oneCell v then true else false) = true; rw [h1]; rfl
  unfold appR appendF
  have e0 : lenV (.slice (some ⟨T, 0, none⟩) 1 1) = .ok 1 := rfl
  have e2 : Nat.ble (Nat.mul (Nat.succ (Nat.add 0 1)) (Nat.succ eb)) most = true := nat_ble.2 hm
  simp only [e0, src1 r, forceN_is]
  have e1 : Nat.ble (Nat.add 0 1) 0 = false := rfl
  simp only [e1, e2, cond_true, ho]
  show srcCells h 1 (.slice none 0 0) 0 (fun olds => growF 1 en none 0 (Nat.add 0 1) (olds ++ [v]) h) = _
  show growF 1 en none 0 1 [v] h = _
  unfold growF
  rw [(ofL_is [v]).1]
  show newRowT h (Nat.succ en) (ofL [v]) (lenL [v]) (slcNew 1 1) = _
  unfold newRowT
  rw [forceN_is, newBlk_is W]; rfl
theorem app_one {eb en b T : Nat} {l : List Value} {v : Value} (W : h.Wf) (r : h.Row b (en + 1) l) (rT : h.Row T 0 [v]) (hbT : T ≠ b) (h1 : oneCell v = true) (hm : (l.length + 2) * (eb + 1) ≤ 1099511627776) :
    ∃ t, (t.Is (l ++ [v])) ∧ appR 1 eb en (.slice (some ⟨b, 0, none⟩) l.length l.length) (.slice (some ⟨T, 0, none⟩) 1 1) h = .ok (.slice (some ⟨h.next, 0, none⟩) (l.length + 1) (l.length + 1)) ((h.put b .dead).push (.cells t (l.length + 1) (en + 1))) := by
  obtain ⟨cc, hcc, hl⟩ := r.rowOf
  obtain ⟨t, h2, h3⟩ := setAll_is [v] cc l l.length hl (.inr rfl)
  have h3 : t.Is (l ++ [v]) := by
    have e : l.drop (l.length + [v].length) = [] := List.drop_of_length_le (by simp)
    rw [e] at h3
    simpa using h3
  have hlt := r.lt W
  refine ⟨t, h3, ?_⟩
  have ho : allOne [v] = true := by show (bif oneCell v then true else false) = true; rw [h1]; rfl
  unfold appR appendF
  have e0 : lenV (.slice (some ⟨T, 0, none⟩) 1 1) = .ok 1 := rfl
  simp only [e0, src1 rT, forceN_is, Nat.add_eq]
  have e1 : Nat.ble (l.length + 1) l.length = false := by
    cases e : Nat.ble (l.length + 1) l.length
    · rfl
    · have := nat_ble.1 e; omega
  have e2 : Nat.ble (Nat.mul (Nat.succ (l.length + 1)) (Nat.succ eb)) most = true := nat_ble.2 hm
  simp only [e1, e2, cond_true, ho]
  unfold growA
  have e3 : Nat.beq l.length (Nat.mul l.length 1) = true := nat_beq.2 (Nat.mul_one _).symm
  simp only [hcc, e3, h2]
  unfold growT
  have e4 : atEnd 0 l.length 1 l.length = true := by
    unfold atEnd
    cases l.length with
    | zero => rfl
    | succ n => exact nat_beq.2 (by show 0 + (n + 1) * 1 = n + 1; omega)
  simp only [hcc, lenL_is, List.length_cons, List.length_nil, Nat.add_eq, Nat.zero_add, Nat.beq_refl, cond_true, e4]
  rw [putBlk_is W hlt]
  unfold newRowT
  rw [forceN_is, newBlk_is (W.put hlt _)]; rfl
end
def iv (n : Nat) : Value := .int .i64 (n : Int)
def upL (k : Nat) : List Value := (List.range k).map iv
theorem upL_len (k : Nat) : (upL k).length = k := by simp [upL]
theorem upL_succ (k : Nat) : upL (k + 1) = upL k ++ [iv k] := by simp [upL, List.range_succ]
theorem zero3 : repL ty3.zero 1 = [.int .i64 0] := by kernel_rfl
noncomputable def es1 : List Ent := [⟨.int .i64 (.ofNat 0), .int .i64 (.ofNat 1), 0⟩]
noncomputable def lookR (z : Value) (m key : Value) (ok : Bool) (h : Hp) : R := lookupF ⟨false, [.i .i64]⟩ z m key ok h
theorem oLookup_is {F : CallF} {e : Env} {h : Hp} {x y : O} {z : Value} {ok : Bool} : oLookup ⟨false, [.i .i64]⟩ z ok x y F e h = lookR z (x e) (y e) ok h := rfl
theorem look_is {h : Hp} {M k : Nat} (hM : h.bl.get M = .map es1 k) : lookR (.int .i64 0) (.map (some M)) (.int .i64 ((0 : Nat) : Int)) false h = .ok (.int .i64 1) h := by
  unfold lookR lookupF
  have hf : fitK ⟨false, [.i .i64]⟩ (.int .i64 ((0 : Nat) : Int)) = true := rfl
  have he : entsOf h M = .ok es1 k := by unfold entsOf; rw [hM]; rfl
  simp only [hf, he]
  rfl
/-- where the loop stands behind so many rounds -/
structure At (h1 g : Hp) (P Z M S N k : Nat) (f t : Value) (i : Nat) (w : Value) : Prop where
  wf : g.Wf
  low : P ≤ g.low
  stay : ∀ b, b < N → b ≠ S → g.bl.get b = h1.bl.get b
  next : g.next = N + 2 * i
  high : g.high ≤ g.next
  row : g.Row Z 0 (upL 10001)
  map : g.bl.get M = .map es1 k
  cell : g.Row S 0 [f, t, w]
  left : (i = 0 ∧ w = .slice none 0 0) ∨ (0 < i ∧ w = .slice (some ⟨N + 2 * i - 1, 0, none⟩) i i ∧ g.Row (N + 2 * i - 1) 4 (upL i))
section
variable {F : CallF} {e : Env} {h1 g : Hp} {P Z M S N k i : Nat} {f t w : Value}
theorem Hp.Row.of_get {h h' : Hp} {b el : Nat} {l : List Value} (r : h.Row b el l) (hb : h'.bl.get b = h.bl.get b) : h'.Row b el l := by
  obtain ⟨c, hc, hl⟩ := r
  exact ⟨c, hb.trans hc, hl⟩
/-- the two blocks of a round, ahead of the store -/
theorem grown (A : At h1 g P Z M S N k f t i w) (hP : P ≤ N) (hi : i < 10000) : ∃ g2 w2, appR 1 8 3 w (.slice (some ⟨g.next, 0, none⟩) 1 1) (g.pushRow 0 [iv i]) = .ok w2 g2 ∧ g2.Wf ∧ P ≤ g2.low ∧ g2.next = N + 2 * (i + 1) ∧ g2.high ≤ g2.next ∧
    (∀ b, b < N → g2.bl.get b = g.bl.get b) ∧ w2 = .slice (some ⟨N + 2 * (i + 1) - 1, 0, none⟩) (i + 1) (i + 1) ∧ g2.Row (N + 2 * (i + 1) - 1) 4 (upL (i + 1)) := by
  have W1 := pushRow_wf A.wf (el := 0) (l := [iv i])
  have rT := Hp.Row.new A.wf 0 [iv i]
  have hn := A.next
  have hg1 : ∀ b, b < N → (g.pushRow 0 [iv i]).bl.get b = g.bl.get b := fun b hb => by
    show (g.push _).bl.get b = _
    rw [A.wf.push_get, if_neg (by omega)]
  have n1 : (g.pushRow 0 [iv i]).next = N + 2 * i + 1 := by show g.next + 1 = _; omega
  rcases A.left with ⟨rfl, rfl⟩ | ⟨hp, rfl, r⟩
  · refine ⟨_, _, app_nil W1 rT rfl (by omega), W1.push _, A.low, ?_, ?_, fun b hb => ?_, ?_, ?_⟩
    · show (g.pushRow 0 [iv 0]).next + 1 = _; omega
    · show g.high ≤ (g.pushRow 0 [iv 0]).next + 1; have := A.high; omega
    · show ((g.pushRow 0 [iv 0]).push _).bl.get b = _
      rw [W1.push_get, if_neg (by omega)]; exact hg1 b hb
    · have e : N + 2 * (0 + 1) - 1 = N + 2 * 0 + 1 := by omega
      rw [n1, e]
    · have := Hp.Row.new W1 4 [iv 0]
      rw [n1] at this
      exact this
  · have rb : (g.pushRow 0 [iv i]).Row (N + 2 * i - 1) (3 + 1) (upL i) := r.push A.wf _
    obtain ⟨tr, h3, h4⟩ := app_one (eb := 8) (en := 3) W1 rb rT (by omega) rfl (by rw [upL_len]; omega)
    rw [upL_len, n1] at h4
    have hlt : N + 2 * i - 1 < (g.pushRow 0 [iv i]).next := by omega
    have W2 : ((g.pushRow 0 [iv i]).put (N + 2 * i - 1) .dead).Wf := W1.put hlt _
    refine ⟨_, _, h4, W2.push _, ?_, ?_, ?_, fun b hb => ?_, ?_, ?_⟩
    · show P ≤ minN g.low (N + 2 * i - 1)
      rw [minN_is]; have := A.low; omega
    · show (g.pushRow 0 [iv i]).next + 1 = _; omega
    · show maxN g.high (N + 2 * i - 1) ≤ (g.pushRow 0 [iv i]).next + 1
      rw [maxN_is]; have := A.high; omega
    · rw [W2.push_get, if_neg (by show b ≠ (g.pushRow 0 [iv i]).next; omega), W1.put_get hlt, if_neg (by omega)]; exact hg1 b hb
    · have e : N + 2 * (i + 1) - 1 = N + 2 * i + 1 := by omega
      rw [e]
    · have e : N + 2 * (i + 1) - 1 = N + 2 * i + 1 := by omega
      rw [e]
      refine ⟨tr, ?_, by rw [upL_succ]; exact h3⟩
      rw [W2.push_get, if_pos (show N + 2 * i + 1 = ((g.pushRow 0 [iv i]).put (N + 2 * i - 1) .dead).next from n1.symm), upL_len]
theorem round_is (A : At h1 g P Z M S N k f t i w) (hP : P ≤ S) (hS : S < N) (hZ : Z < N) (hM : M < N) (hZS : Z ≠ S) (hMS : M ≠ S) (hi : i < 10000) {n cap c0 : Nat} (hin : i < n) {a0 : Option Addr}
    (s0 : slotG 0 e = .slice a0 1 c0) (s14 : slotG 14 e = .map (some M)) (s17 : slotG 17 e = .pointer (some ⟨S, 0, none⟩)) (s51 : slotG 51 e = .slice (some ⟨Z, 0, none⟩) n cap) (s52 : slotG 52 e = .int .i64 (n : Int)) (s53 : slotG 53 e = .int .i64 (i : Int)) :
    ∃ e' g' w', bodyB F e g = .norm e' g' ∧ At h1 g' P Z M S N k f t (i + 1) w' ∧ slotG 53 e' = .int .i64 ((i + 1 : Nat) : Int) ∧ (∀ j, j < 320 → (j < 53 ∧ j ≠ 19) → slotG j e' = slotG j e) := by
  obtain ⟨g2, w2, a1, a2, a3, a4, a5, a6, a7, a8⟩ := grown A (by omega) hi
  have W := A.wf
  have c1 : iLt (i : Int) (n : Int) = true := by rw [iLt_is]; simp [hin]
  have l0 : load1 ⟨Z, i, none⟩ g = .ok (iv i) g := by
    have := A.row.load1 (off := i) (by rw [upL_len]; omega)
    have e1 : (upL 10001).getD i noRes = iv i := by
      unfold upL
      rw [List.getD_eq_getElem?_getD, List.getElem?_map, List.getElem?_range (by omega)]; rfl
    rw [e1] at this
    exact this
  have hiv : iv i = .int .i64 (i : Int) := rfl
  have c2 : (i : Int).tmod (1 : Int) = ((0 : Nat) : Int) := by rw [Int.tmod_one]; rfl
  have c2' : remR .i64 (.int .i64 (i : Int)) (.int .i64 ((1 : Nat) : Int)) g = .ok (.int .i64 ((0 : Nat) : Int)) g := by
    have := remR_is (h := g) (j := .i64) (m := (i : Int)) (n := ((1 : Nat) : Int)) (by omega)
    rw [this]
    congr 2
  have c3 := look_is (h := g) A.map
  have c4 : iEq 1 0 = false := rfl
  have l2 : load1 ⟨S, 2, none⟩ g = .ok w g := A.cell.load1 (by simp)
  have hlw : ∃ o m, w = .slice o i m := by
    rcases A.left with ⟨rfl, rfl⟩ | ⟨_, rfl, _⟩
    · exact ⟨_, _, rfl⟩
    · exact ⟨_, _, rfl⟩
  obtain ⟨ow, mw, hw⟩ := hlw
  have c5 : lenSR w g = .ok (.int .i64 (i : Int)) g := by rw [hw]; rfl
  have c6 : iGe (i : Int) 10000 = false := by rw [iGe_is]; simp; omega
  have hb : newRow g 0 [iv i] (slcNew 1 1) = .ok (.slice (some ⟨g.next, 0, none⟩) 1 1) (g.pushRow 0 [iv i]) := by rw [newRow_is W]; rfl
  have rS : g2.Row S 0 [f, t, w] := Hp.Row.of_get A.cell (a6 S hS)
  have st : storeR 1 (.pointer (some ⟨S, 2, none⟩)) w2 g2 = .ok noRes (g2.wr S 2 [w2]) := by
    rw [a7]; exact rS.storeR a2 (off := 2) (v := .slice (some ⟨N + 2 * (i + 1) - 1, 0, none⟩) (i + 1) (i + 1)) rfl (by simp [cellsOf]) rfl
  have c7 : IntKind.i64.wrap ((i : Int) + 1) = ((i + 1 : Nat) : Int) := wrap_nat (n := i + 1) (by omega)
  have ho : 2 + [w2].length ≤ [f, t, w].length := by simp
  have hrun : ∃ e', bodyB F e g = .norm e' (g2.wr S 2 [w2]) ∧ slotG 53 e' = .int .i64 ((i + 1 : Nat) : Int) ∧ (∀ j, j < 320 → (j < 53 ∧ j ≠ 19) → slotG j e' = slotG j e) := by
    unfold bodyB
    simp only [cOp_is, cDo_is, cCond_is, cSeq_is, cBlock_is, cNorm_is, cRet_is, cExit_is, opX_ok, doX_ok, condX_true, condX_false, seqX_norm, seqX_exit, seqX_ret, blockX_norm, blockX_ret, blockX_exit, oMove_is, kV_is, slot_set, Nat.reduceLT, Nat.reduceEqDiff, if_true, if_false, reduceIte, oCmp_is, cmpR_is, s53, s52, c1, oIdx_is, s51, idxSR_is hin, oLoad1_is, loadR_is, Nat.zero_add, Nat.mul_one, l0, oLenS_is, s0, lenSR_is, oRem_is, hiv, c2', oLookup_is, s14, c3, c4, oFieldAddr_is', s17, fieldAR_is, Nat.zero_add, l2, c5, c6, oBuildSlice_is, zero3, fillL_cons, fillL_nil, cells_int, List.length_cons, List.length_nil, Nat.reduceAdd, Nat.reduceLeDiff, over_0]
    rw [hiv] at hb a1
    simp only [cOp_is, cDo_is, cCond_is, cSeq_is, cBlock_is, cNorm_is, cRet_is, cExit_is, opX_ok, doX_ok, condX_true, condX_false, seqX_norm, seqX_exit, seqX_ret, blockX_norm, blockX_ret, blockX_exit, oMove_is, kV_is, slot_set, Nat.reduceLT, Nat.reduceEqDiff, if_true, if_false, reduceIte, hb, oAppend_is, a1, s17, oFieldAddr_is', fieldAR_is, Nat.zero_add, oStore_is, st, s53, oAdd_is, addR_is, c7]
    refine ⟨_, rfl, by simp only [slot_set, Nat.reduceLT, Nat.reduceEqDiff, if_true, if_false, reduceIte], fun j hj ⟨h1, h2⟩ => ?_⟩
    repeat rw [slot_other (by omega) (by omega) hj]
  obtain ⟨e', r1, r2, r3⟩ := hrun
  refine ⟨e', _, w2, r1, { wf := rS.wr_wf a2 ho, low := ?_, stay := fun b hb hbS => ?_, next := (rS.wr_next ho).trans a4, high := ?_, row := rS.wr_other a2 ho (Hp.Row.of_get A.row (a6 Z hZ)) hZS, map := ?_, cell := ?_, left := .inr ⟨Nat.succ_pos i, a7, ?_⟩ }, r2, r3⟩
  · obtain ⟨c, _, e1, _⟩ := rS.wr_is ho
    rw [e1]
    show P ≤ minN g2.low S
    rw [minN_is]; omega
  · obtain ⟨c, _, e1, _⟩ := rS.wr_is ho
    rw [e1, a2.put_get (by omega), if_neg hbS, a6 b hb, A.stay b hb hbS]
  · obtain ⟨c, _, e1, _⟩ := rS.wr_is ho
    rw [e1]
    show maxN g2.high S ≤ g2.next
    rw [maxN_is]; omega
  · obtain ⟨c, _, e1, _⟩ := rS.wr_is ho
    rw [e1, a2.put_get (by omega), if_neg hMS, a6 M hM, A.map]
  · have := rS.wr_self a2 ho
    exact this
  · exact rS.wr_other a2 ho a8 (by omega)
end
end Go.Proofs.Ytkafejncffinmaa.moveNumbers
set_option linter.unusedVariables false
set_option linter.unusedSimpArgs false
namespace Go.Proofs.Ytkafejncffinmaa.moveNumbers
open Go
set_option maxRecDepth 100000
/-! ### a tail of code, taken apart -/
def Repl (r c c' : C) : Prop := ∀ F e h, c F e h = match c' F e h with
  | .norm e h => r F e h
  | x => x
theorem repl_base {r : C} : Repl r r cNorm := fun _ _ _ => rfl
theorem repl_ret {r : C} : Repl r cRet cRet := fun _ _ _ => rfl
theorem repl_op {r k k' : C} {i : Nat} {f : OpF} (hi : i < 320) (hk : Repl r k k') : Repl r (cOp (slotT i) f k) (cOp (slotT i) f k') := fun F e h => by
  rw [cOp_is hi, cOp_is hi]
  unfold opX
  cases f F e h with
  | ok v h => exact hk F _ h
  | no => rfl
theorem repl_do {r k k' : C} {f : OpF} (hk : Repl r k k') : Repl r (cDo f k) (cDo f k') := fun F e h => by
  rw [cDo_is, cDo_is]
  unfold doX
  cases f F e h with
  | ok v h => exact hk F _ h
  | no => rfl
theorem repl_cond {r a b a' b' : C} {x : O} (ha : Repl r a a') (hb : Repl r b b') : Repl r (cCond x a b) (cCond x a' b') := fun F e h => by
  rw [cCond_is, cCond_is]
  unfold condX
  cases x e with
  | bool c =>
    cases c
    · exact hb F e h
    · exact ha F e h
  | _ => rfl
theorem repl_seq {r a k k' : C} (hk : Repl r k k') : Repl r (cSeq a k) (cSeq a k') := fun F e h => by
  rw [cSeq_is, cSeq_is]
  unfold seqX
  cases a F e h with
  | norm e h => exact hk F e h
  | _ => rfl
noncomputable def fullB : C := (cOp (slotT 8) (oMove (kV (.slice none 0 0)))
(cOp (slotT 9) (oAlloc 3 zt31)
(cOp (slotT 10) (oMove (kV (.int .i64 0)))
(cOp (slotT 24) (oCall 29 [(slotG 0), (slotG 1), (slotG 2)])
(cOp (slotT 25) (oExtract 0 (slotG 24))
(cOp (slotT 26) (oExtract 1 (slotG 24))
(cOp (slotT 27) (oExtract 2 (slotG 24))
(cOp (slotT 11) (oMove (slotG 25))
(cOp (slotT 12) (oMove (slotG 26))
(cOp (slotT 13) (oMove (slotG 27))
(cOp (slotT 29) (oCmp iNe .i64 (slotG 13) (kV (.int .i64 0)))
(cCond (slotG 29)
(cOp (slotT 30) (oBuild ty31.zero [])
(cOp (slotT 8) (oMove (kV (.slice none 0 0)))
(cDo (oStore 3 (slotG 9) (slotG 30))
(cOp (slotT 10) (oMove (slotG 13))
cRet))))
(cOp (slotT 33) (oCall 30 [(slotG 3)])
(cOp (slotT 34) (oNot (slotG 33))
(cCond (slotG 34)
(cOp (slotT 35) (oBuild ty31.zero [])
(cOp (slotT 8) (oMove (kV (.slice none 0 0)))
(cDo (oStore 3 (slotG 9) (slotG 35))
(cOp (slotT 10) (oMove (kV (.int .i64 2)))
cRet))))
(cOp (slotT 36) oMap
(cOp (slotT 14) (oMove (slotG 36))
(cOp (slotT 37) (oMove (slotG 12))
(cOp (slotT 38) (oLenS (slotG 37))
(cOp (slotT 39) (oMove (kV (.int .i64 0)))
(cSeq (cBlock 0 (cLoop (cOp (slotT 40) (oCmp iLt .i64 (slotG 39) (slotG 38))
(cCond (slotG 40)
(cSeq (cBlock 1 (cOp (slotT 41) (oIdx 1 (slotG 37) (slotG 39))
(cOp (slotT 42) (oLoad1 (slotG 41))
(cOp (slotT 16) (oMove (slotG 42))
(cOp (slotT 45) (oLookup ⟨false, [.i .i64]⟩ (.int .i64 0) false (slotG 14) (slotG 16))
(cOp (slotT 46) (oAdd .i64 (topOf .i64) (slotG 45) (kV (.int .i64 1)))
(cDo (oUpdate ⟨false, [.i .i64]⟩ (slotG 14) (slotG 16) (slotG 46))
cNorm)))))))
(cOp (slotT 47) (oAdd .i64 (topOf .i64) (slotG 39) (kV (.int .i64 1)))
(cOp (slotT 39) (oMove (slotG 47))
cNorm)))
(cExit 0)))))
(cOp (slotT 50) (oBuild ty31.zero [(0, 1, (slotG 1)), (1, 1, (slotG 2))])
(cOp (slotT 17) (oAlloc 3 zt31)
(cDo (oStore 3 (slotG 17) (slotG 50))
(cOp (slotT 51) (oMove (slotG 3))
(cOp (slotT 52) (oLenS (slotG 51))
(cOp (slotT 53) (oMove (kV (.int .i64 0)))
(cSeq (cBlock 2 (cLoop (cOp (slotT 54) (oCmp iLt .i64 (slotG 53) (slotG 52))
(cCond (slotG 54)
(cSeq (cBlock 3 (cOp (slotT 55) (oIdx 1 (slotG 51) (slotG 53))
(cOp (slotT 56) (oLoad1 (slotG 55))
(cOp (slotT 19) (oMove (slotG 56))
(cOp (slotT 60) (oLenS (slotG 0))
(cOp (slotT 61) (oRem .i64 (slotG 19) (slotG 60))
(cOp (slotT 62) (oLookup ⟨false, [.i .i64]⟩ (.int .i64 0) false (slotG 14) (slotG 61))
(cOp (slotT 63) (oCmp iEq .i64 (slotG 62) (kV (.int .i64 0)))
(cCond (slotG 63)
(cExit 3)
(cOp (slotT 64) (oFieldAddr 2 (slotG 17))
(cOp (slotT 65) (oLoad1 (slotG 64))
(cOp (slotT 66) (oLenS (slotG 65))
(cOp (slotT 67) (oCmp iGe .i64 (slotG 66) (kV (.int .i64 10000)))
(cCond (slotG 67)
(cOp (slotT 68) (oBuild ty31.zero [])
(cOp (slotT 8) (oMove (kV (.slice none 0 0)))
(cDo (oStore 3 (slotG 9) (slotG 68))
(cOp (slotT 10) (oMove (kV (.int .i64 5)))
cRet))))
(cOp (slotT 69) (oFieldAddr 2 (slotG 17))
(cOp (slotT 70) (oLoad1 (slotG 69))
(cOp (slotT 72) (oBuildSlice 1 (repL ty3.zero 1) [(0, 1, (slotG 19))])
(cOp (slotT 73) (oAppend 1 8 3 (slotG 70) (slotG 72))
(cOp (slotT 74) (oFieldAddr 2 (slotG 17))
(cDo (oStore 1 (slotG 74) (slotG 73))
cNorm))))))))))))))))))))
(cOp (slotT 75) (oAdd .i64 (topOf .i64) (slotG 53) (kV (.int .i64 1)))
(cOp (slotT 53) (oMove (slotG 75))
cNorm)))
(cExit 2)))))
(cMark (cOp (slotT 77) (oLoadN 3 (slotG 17))
(cOp (slotT 8) (oMove (slotG 11))
(cDo (oQuiet .free (oStore 3 (slotG 9) (slotG 77)))
(cOp (slotT 10) (oMove (kV (.int .i64 0)))
cRet)))))))))))))))))))))))))))))))))
theorem full_is : Repl restB fullB preB := by
  unfold fullB preB
  repeat first
    | exact repl_base
    | exact repl_ret
    | refine repl_op (by decide) ?_
    | refine repl_do ?_
    | refine repl_cond ?_ ?_
    | refine repl_seq ?_

/-! ### what the kernel looks at where the loop begins -/
noncomputable def hasB : BT → Nat → Bool
  | .mt, n => Nat.beq n 0
  | .nd _ l r, n => bif Nat.beq n 0 then true else (bif hasB l (Nat.div n 2) then hasB r (Nat.div (Nat.sub n 1) 2) else false)
theorem hasB_ok : ∀ {t : BT} {n : Nat}, hasB t n = true → ∀ i, i < n → t.has i
  | .mt, n, h, i, hi => by
    have : n = 0 := nat_beq.1 h
    omega
  | .nd v l r, n, h, i, hi => by
    have h : (bif Nat.beq n 0 then true else (bif hasB l (Nat.div n 2) then hasB r (Nat.div (Nat.sub n 1) 2) else false)) = true := h
    cases h0 : Nat.beq n 0 with
    | true => have := nat_beq.1 h0; omega
    | false =>
      rw [h0] at h
      obtain ⟨h1, h2⟩ := bif_true h
      cases i with
      | zero => exact trivial
      | succ k =>
        rw [BT.has_succ]
        split
        · exact hasB_ok h1 _ (by show k / 2 < n / 2; omega)
        · exact hasB_ok h2 _ (by show k / 2 < (n - 1) / 2; omega)
noncomputable def isDead : Blk → Bool
  | .dead => true
  | _ => false
noncomputable def freshB : BT → Nat → Bool
  | .mt, _ => true
  | .nd v l r, n => bif (bif Nat.beq n 0 then isDead v else true) then (bif freshB l (Nat.div n 2) then freshB r (Nat.div (Nat.sub n 1) 2) else false) else false
theorem freshB_ok : ∀ {t : BT} {n : Nat}, freshB t n = true → ∀ i, n ≤ i → t.get i = .dead
  | .mt, n, h, i, hi => rfl
  | .nd v l r, n, h, i, hi => by
    have h : (bif (bif Nat.beq n 0 then isDead v else true) then (bif freshB l (Nat.div n 2) then freshB r (Nat.div (Nat.sub n 1) 2) else false) else false) = true := h
    obtain ⟨h0, h⟩ := bif_true h
    obtain ⟨h1, h2⟩ := bif_true h
    cases i with
    | zero =>
      have : n = 0 := by omega
      subst this
      have h0 : isDead v = true := h0
      cases v with
      | dead => rfl
      | _ => cases h0
    | succ k =>
      rw [BT.get_nd_succ]
      split
      · exact freshB_ok h1 _ (by show n / 2 ≤ k / 2; omega)
      · exact freshB_ok h2 _ (by show (n - 1) / 2 ≤ k / 2; omega)
theorem seqT_is : ∀ (f a s n : Nat), n < 2 ^ f → ∀ i, i < n → (seqT f a s n).has i ∧ (seqT f a s n).get i = iv (a + s * i)
  | 0, a, s, n, hn, i, hi => by simp at hn; omega
  | f + 1, a, s, 0, hn, i, hi => absurd hi (Nat.not_lt_zero _)
  | f + 1, a, s, m + 1, hn, i, hi => by
    have e : seqT (f + 1) a s (m + 1) = .nd (iv a) (seqT f (a + s) (2 * s) ((m + 1) / 2)) (seqT f (a + 2 * s) (2 * s) (m / 2)) := by
      show forceN (m + 1) (fun n => match n with
        | 0 => VT.mt
        | Nat.succ m => forceN a fun a => forceN (Nat.mul 2 s) fun t => .nd (Go.Proofs.Ytkafejncffinmaa.i a) (seqT f (Nat.add a s) t (Nat.div (Nat.succ m) 2)) (seqT f (Nat.add a t) t (Nat.div m 2))) = _
      simp only [forceN_is]; rfl
    rw [e]
    have hp : 2 ^ (f + 1) = 2 * 2 ^ f := by rw [Nat.pow_succ]; omega
    cases i with
    | zero => exact ⟨trivial, by show iv a = _; rw [Nat.mul_zero, Nat.add_zero]⟩
    | succ k =>
      rw [VT.has_succ, VT.get_nd_succ]
      by_cases hk : k % 2 = 0
      · rw [if_pos hk, if_pos hk]
        obtain ⟨h1, h2⟩ := seqT_is f (a + s) (2 * s) ((m + 1) / 2) (by omega) (k / 2) (by omega)
        refine ⟨h1, h2.trans ?_⟩
        congr 1
        have e2 : 2 * s * (k / 2) = s * k := by rw [Nat.mul_comm 2 s, Nat.mul_assoc]; congr 1; omega
        rw [e2, Nat.mul_succ]; omega
      · rw [if_neg hk, if_neg hk]
        obtain ⟨h1, h2⟩ := seqT_is f (a + 2 * s) (2 * s) (m / 2) (by omega) (k / 2) (by omega)
        refine ⟨h1, h2.trans ?_⟩
        congr 1
        have e2 : 2 * s * (k / 2) + s = s * k := by
          have : k = 2 * (k / 2) + 1 := by omega
          generalize k / 2 = q at *
          subst this
          rw [Nat.mul_succ, Nat.mul_comm 2 s, Nat.mul_assoc]
        rw [Nat.mul_succ]
        have : a + 2 * s + 2 * s * (k / 2) = a + (2 * s * (k / 2) + s + s) := by omega
        rw [this, e2]
theorem k0_row {h : Hp} (hk : h.bl.get 105 = k0) : h.Row 105 0 (upL 10001) := by
  refine ⟨seqT 24 0 1 10001, ?_, fun i hi => ?_⟩
  · rw [hk, upL_len]; rfl
  · rw [upL_len] at hi
    obtain ⟨h1, h2⟩ := seqT_is 24 0 1 10001 (by decide) i hi
    refine ⟨h1, h2.trans ?_⟩
    unfold upL
    rw [List.getD_eq_getElem?_getD, List.getElem?_map, List.getElem?_range hi]
    show iv (0 + 1 * i) = iv i
    congr 1; omega
noncomputable def k1 : Blk := cellsB (iL [4, 2]) 2 0
noncomputable def k2 : Blk := cellsB ([(i 1), (.slice (some ⟨106, 0, none⟩) 2 2)]) 2 0
noncomputable def z3 : List Value := [.int .i64 0, .int .i64 0, .slice none 0 0]
noncomputable def c3 : List Value := [.int .i64 4, .int .i64 5, .slice none 0 0]
/-- all that is wanted of the state -/
noncomputable def wantB (pn n M S S9 N clk : Nat) (g11 : Value) (x : X) : Bool := match x with
  | .norm e h => bif eqv 8 (slotG 0 e) (.slice (some ⟨107, 0, none⟩) 1 1) then (bif eqv 8 (slotG 14 e) (.map (some M)) then (bif eqv 8 (slotG 17 e) (.pointer (some ⟨S, 0, none⟩)) then (bif eqv 8 (slotG 51 e) (.slice (some ⟨105, 0, none⟩) n 10001) then
      (bif eqv 8 (slotG 52 e) (.int .i64 (.ofNat n)) then (bif eqv 8 (slotG 53 e) (.int .i64 (.ofNat 0)) then (bif eqv 8 (slotG 9 e) (.pointer (some ⟨S9, 0, none⟩)) then (bif eqv 8 (slotG 11 e) g11 then
      (bif Nat.beq h.next N then (bif Nat.ble pn h.low then (bif Nat.ble h.high h.next then (bif freshB h.bl N then (bif hasB h.bl N then
      holds h.bl [(105, k0), (106, k1), (107, k2), (M, .map es1 clk), (S, .cells (ofL c3) 3 0), (S9, .cells (ofL z3) 3 0)] else false) else false) else false) else false) else false) else false) else false) else false) else false) else false) else false) else false) else false
  | _ => false
structure Want (pn n M S S9 N clk : Nat) (g11 : Value) (e : Env) (h : Hp) : Prop where
  s0 : slotG 0 e = .slice (some ⟨107, 0, none⟩) 1 1
  s14 : slotG 14 e = .map (some M)
  s17 : slotG 17 e = .pointer (some ⟨S, 0, none⟩)
  s51 : slotG 51 e = .slice (some ⟨105, 0, none⟩) n 10001
  s52 : slotG 52 e = .int .i64 (n : Int)
  s53 : slotG 53 e = .int .i64 ((0 : Nat) : Int)
  s9 : slotG 9 e = .pointer (some ⟨S9, 0, none⟩)
  s11 : slotG 11 e = g11
  next : h.next = N
  low : pn ≤ h.low
  high : h.high ≤ h.next
  wf : h.Wf
  b105 : h.bl.get 105 = k0
  b106 : h.bl.get 106 = k1
  b107 : h.bl.get 107 = k2
  bM : h.bl.get M = .map es1 clk
  bS : h.Row S 0 c3
  bS9 : h.Row S9 0 z3
theorem want_ok {pn n M S S9 N clk : Nat} {g11 : Value} {x : X} (hx : wantB pn n M S S9 N clk g11 x = true) : ∃ e h, x = .norm e h ∧ Want pn n M S S9 N clk g11 e h := by
  cases x with
  | norm e h =>
    unfold wantB at hx
    obtain ⟨a1, hx⟩ := bif_true hx
    obtain ⟨a2, hx⟩ := bif_true hx
    obtain ⟨a3, hx⟩ := bif_true hx
    obtain ⟨a4, hx⟩ := bif_true hx
    obtain ⟨a5, hx⟩ := bif_true hx
    obtain ⟨a6, hx⟩ := bif_true hx
    obtain ⟨a7, hx⟩ := bif_true hx
    obtain ⟨a8, hx⟩ := bif_true hx
    obtain ⟨a9, hx⟩ := bif_true hx
    obtain ⟨b1, hx⟩ := bif_true hx
    obtain ⟨b2, hx⟩ := bif_true hx
    obtain ⟨b3, hx⟩ := bif_true hx
    obtain ⟨b4, hx⟩ := bif_true hx
    have hn := nat_beq.1 a9
    have H := holds_ok hx
    have HS : h.bl.get S = .cells (ofL c3) 3 0 := H _ _ (by simp)
    have HS9 : h.bl.get S9 = .cells (ofL z3) 3 0 := H _ _ (by simp)
    exact ⟨e, h, rfl, { s0 := eqv_ok _ _ _ a1, s14 := eqv_ok _ _ _ a2, s17 := eqv_ok _ _ _ a3, s51 := eqv_ok _ _ _ a4, s52 := eqv_ok _ _ _ a5, s53 := eqv_ok _ _ _ a6, s9 := eqv_ok _ _ _ a7, s11 := eqv_ok _ _ _ a8, next := hn, low := nat_ble.1 b1, high := nat_ble.1 b2, wf := ⟨fun i hi => hasB_ok b4 i (hn ▸ hi), fun i hi => freshB_ok b3 i (hn ▸ hi)⟩, b105 := H _ _ (by simp), b106 := H _ _ (by simp), b107 := H _ _ (by simp), bM := H _ _ (by simp), bS := ⟨ofL c3, HS, (ofL_is c3).2⟩, bS9 := ⟨ofL z3, HS9, (ofL_is z3).2⟩ }⟩
  | _ => cases hx
end Go.Proofs.Ytkafejncffinmaa.moveNumbers

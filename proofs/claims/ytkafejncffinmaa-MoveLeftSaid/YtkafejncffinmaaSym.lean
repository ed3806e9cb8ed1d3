/-
  Steps of the machine as equations, for runs whose values are open: what an operation gives, what code goes on with.
-/
import Derived.Test.YtkafejncffinmaaRun
import Derived.Test.YtkafejncffinmaaFull
set_option linter.unusedVariables false
set_option linter.unusedSimpArgs false
namespace Go.Proofs.Ytkafejncffinmaa
open Go

section
variable {F : CallF} {e : Env} {h h' : Hp} {k a b : C} {f : OpF} {x y : O}

/-! ### code -/
/-- goes on behind an operation -/
noncomputable def opX (i : Nat) (r : R) (k : C) (F : CallF) (e : Env) : X := match r with
  | .ok v h => k F (Env.set i v e) h
  | .no => .no
noncomputable def doX (r : R) (k : C) (F : CallF) (e : Env) : X := match r with
  | .ok _ h => k F e h
  | .no => .no
noncomputable def seqX (x : X) (b : C) (F : CallF) : X := match x with
  | .norm e h => b F e h
  | x => x
noncomputable def blockX (id : Nat) (x : X) : X := match x with
  | .exit i e h => bif Nat.beq i id then .norm e h else .exit i e h
  | x => x
noncomputable def condX (v : Value) (a b : C) (F : CallF) (e : Env) (h : Hp) : X := match v with
  | .bool c => (bif c then a else b) F e h
  | _ => .no
noncomputable def skipC (i : Nat) (k : C) : C := fun F e h => k F (Env.set i noRes e) h
noncomputable def guardX (v : Value) (want : Bool) (a b : C) (F : CallF) (e : Env) (h : Hp) : X := match v with
  | .bool c => (bif want == c then a else b) F e h
  | .tuple _ => b F e h
  | _ => .no
theorem opX_ok {i : Nat} {v : Value} : opX i (.ok v h) k F e = k F (Env.set i v e) h := rfl
theorem doX_ok {v : Value} : doX (.ok v h) k F e = k F e h := rfl
theorem seqX_norm : seqX (.norm e h) b F = b F e h := rfl
theorem seqX_ret : seqX (.ret e h) b F = .ret e h := rfl
theorem seqX_exit {i : Nat} : seqX (.exit i e h) b F = .exit i e h := rfl
theorem blockX_norm {i : Nat} : blockX i (.norm e h) = .norm e h := rfl
theorem blockX_ret {i : Nat} : blockX i (.ret e h) = .ret e h := rfl
theorem blockX_exit {i : Nat} : blockX i (.exit i e h) = .norm e h := by
  show (bif Nat.beq i i then _ else _) = _
  rw [Nat.beq_refl]; rfl
theorem blockX_other {i j : Nat} (hij : (Nat.beq j i) = false) : blockX i (.exit j e h) = .exit j e h := by
  show (bif Nat.beq j i then _ else _) = _
  rw [hij]; rfl
theorem condX_true : condX (.bool true) a b F e h = a F e h := rfl
theorem condX_false : condX (.bool false) a b F e h = b F e h := rfl
theorem guardX_tt : guardX (.bool true) true a b F e h = a F e h := rfl
theorem guardX_tf : guardX (.bool true) false a b F e h = b F e h := rfl
theorem guardX_ft : guardX (.bool false) true a b F e h = b F e h := rfl
theorem guardX_ff : guardX (.bool false) false a b F e h = a F e h := rfl
theorem guardX_none {w : Bool} : guardX noRes w a b F e h = b F e h := rfl
theorem skipC_is {i : Nat} : skipC i k F e h = k F (Env.set i noRes e) h := rfl
theorem cOp_is {i : Nat} (hi : i < 320) : cOp (slotT i) f k F e h = opX i (f F e h) k F e := by
  unfold cOp opX
  cases f F e h with
  | ok v h => exact slotT_is i hi _ v e
  | no => rfl
theorem cDo_is : cDo f k F e h = doX (f F e h) k F e := by
  unfold cDo doX
  cases f F e h <;> rfl
theorem cG_is {g : O} {w : Bool} {i : Nat} (hi : i < 320) : cG g w (slotT i) f k F e h = guardX (g e) w (cOp (slotT i) f k) (skipC i k) F e h := by
  unfold cG guardX skipC
  cases g e with
  | bool c =>
    simp only
    cases w == c
    · exact slotT_is i hi _ _ e
    · rfl
  | tuple l => exact slotT_is i hi _ _ e
  | _ => rfl
theorem cSeq_is : cSeq a b F e h = seqX (a F e h) b F := by
  unfold cSeq seqX
  cases a F e h <;> rfl
theorem cBlock_is {i : Nat} : cBlock i a F e h = blockX i (a F e h) := by
  unfold cBlock blockX
  cases a F e h <;> rfl
theorem cCond_is : cCond x a b F e h = condX (x e) a b F e h := by
  unfold cCond condX
  cases x e with
  | bool c => cases c <;> rfl
  | _ => rfl
theorem cNorm_is : cNorm F e h = .norm e h := rfl
theorem cRet_is : cRet F e h = .ret e h := rfl
theorem cExit_is {i : Nat} : cExit i F e h = .exit i e h := rfl
theorem cMark_is : cMark k F e h = k F e { next := h.next, low := h.low, high := h.high, mark := h.next, bl := h.bl } := rfl

/-! ### slots -/
theorem slot_set {i j : Nat} {v : Value} (hi : i < 320) (hj : j < 320) : slotG j (Env.set i v e) = if j = i then v else slotG j e := by
  rw [slotG_is j hj, Env.get_set _ _ _ _ hi hj, slotG_is j hj]
theorem slot_self {i : Nat} {v : Value} (hi : i < 320) : slotG i (Env.set i v e) = v := by rw [slot_set hi hi, if_pos rfl]
theorem slot_other {i j : Nat} {v : Value} (hij : j ≠ i) (hi : i < 320) (hj : j < 320) : slotG j (Env.set i v e) = slotG j e := by rw [slot_set hi hj, if_neg hij]
theorem kV_is {v : Value} : kV v e = v := rfl
theorem vals_nil : vals e [] = [] := rfl
theorem vals_cons {l : List O} : vals e (x :: l) = x e :: vals e l := rfl
theorem setArgs_nil {i : Nat} : setArgs e i [] = e := rfl
theorem setArgs_cons {i : Nat} {v : Value} {l : List Value} : setArgs e i (v :: l) = setArgs (Env.set i v e) (Nat.succ i) l := rfl

/-! ### numbers -/
theorem oMove_is : oMove x F e h = .ok (x e) h := moveR_is _ _
theorem intK_is {j : IntKind} {n : Int} : intK j (.int j n) = .ok n := by cases j <;> rfl
theorem natK_is {j : IntKind} {n : Nat} : natK j (.int j (.ofNat n)) = .ok n := by cases j <;> rfl
theorem natK_cast {j : IntKind} {n : Nat} : natK j (.int j (n : Int)) = .ok n := natK_is
theorem natV_is {j : IntKind} {n : Nat} : natV (.int j (.ofNat n)) = .ok n := rfl
theorem natV_cast {j : IntKind} {n : Nat} : natV (.int j (n : Int)) = .ok n := rfl
theorem intV_is {j : IntKind} {n : Int} : intV (.int j n) = .ok n := rfl
theorem okB_is {c : Bool} : okB c h = .ok (.bool c) h := by cases c <;> rfl
theorem iGt_is (a b : Int) : iGt a b = decide (b < a) := iLt_is b a
theorem iLe_is (a b : Int) : iLe a b = decide (a ≤ b) := by
  show (!iLt b a) = _
  rw [iLt_is, ← decide_not]
  congr 1; simp
theorem iGe_is (a b : Int) : iGe a b = decide (b ≤ a) := iLe_is b a
theorem iNe_is (a b : Int) : iNe a b = !(a == b) := by
  show (!iEq a b) = _
  rw [iEq_is]
/-- a comparison's answer, an operation's -/
noncomputable def cmpR (f : Int → Int → Bool) (j : IntKind) (a b : Value) (h : Hp) : R := cmpF f (intK j a) (intK j b) h
noncomputable def ariR (f : Int → Int → Int) (j : IntKind) (a b : Value) (h : Hp) : R := ariF f j (intK j a) (intK j b) h
theorem oCmp_is {f : Int → Int → Bool} {j : IntKind} : oCmp f j x y F e h = cmpR f j (x e) (y e) h := rfl
theorem oAri_is {f : Int → Int → Int} {j : IntKind} : oAri f j x y F e h = ariR f j (x e) (y e) h := rfl
theorem cmpR_is {f : Int → Int → Bool} {j : IntKind} {m n : Int} : cmpR f j (.int j m) (.int j n) h = .ok (.bool (f m n)) h := by
  unfold cmpR
  rw [intK_is, intK_is]; exact okB_is
theorem ariR_is {f : Int → Int → Int} {j : IntKind} {m n : Int} : ariR f j (.int j m) (.int j n) h = .ok (.int j (j.wrap (f m n))) h := by
  unfold ariR
  rw [intK_is, intK_is]
  show okI j (wrapF j (f m n)) h = _
  rw [okI_is, wrapF_is]
noncomputable def addR (j : IntKind) (a b : Value) (h : Hp) : R := addF j (topOf j) (intK j a) (intK j b) h
theorem oAdd_is {j : IntKind} : oAdd j (topOf j) x y F e h = addR j (x e) (y e) h := rfl
theorem wrap_top {j : IntKind} {n : Nat} (hn : Nat.ble n (topOf j) = true) : j.wrap (n : Int) = n := by
  rw [← wrapF_is]
  show Bool.rec (motive := fun _ => Int) (j.wrap (.ofNat n)) (.ofNat n) (Nat.ble n (topOf j)) = _
  rw [hn]; rfl
theorem addR_is {j : IntKind} {m n : Int} : addR j (.int j m) (.int j n) h = .ok (.int j (j.wrap (m + n))) h := by
  unfold addR
  rw [intK_is, intK_is]
  cases m with
  | negSucc m => show okI j (wrapF j _) h = _; rw [okI_is, wrapF_is]
  | ofNat m =>
    cases n with
    | negSucc n => show okI j (wrapF j _) h = _; rw [okI_is, wrapF_is]
    | ofNat n =>
      show Bool.rec (motive := fun _ => R) (okI j (j.wrap (.ofNat m + .ofNat n)) h) (forceN (Nat.add m n) fun n => .ok (.int j (.ofNat n)) h) (Nat.ble (Nat.add m n) (topOf j)) = _
      cases hb : Nat.ble (Nat.add m n) (topOf j) with
      | false => simp only; rw [okI_is]
      | true =>
        simp only
        rw [forceN_is]
        have := wrap_top hb
        have e : (Int.ofNat m + Int.ofNat n : Int) = ((Nat.add m n : Nat) : Int) := by
          show ((m : Int) + (n : Int)) = ((m + n : Nat) : Int)
          omega
        rw [e, this]; rfl
noncomputable def divR (j : IntKind) (a b : Value) (h : Hp) : R := divF j (intK j a) (intK j b) h
noncomputable def remR (j : IntKind) (a b : Value) (h : Hp) : R := remF j (intK j a) (intK j b) h
theorem oDiv_is {j : IntKind} : oDiv j x y F e h = divR j (x e) (y e) h := rfl
theorem oRem_is {j : IntKind} : oRem j x y F e h = remR j (x e) (y e) h := rfl
theorem divR_is {j : IntKind} {m n : Int} (hn : n ≠ 0) : divR j (.int j m) (.int j n) h = .ok (.int j (j.wrap (m.tdiv n))) h := by
  unfold divR
  rw [intK_is, intK_is]
  show (bif iEq n 0 then R.no else okI j (wrapF j (m.tdiv n)) h) = _
  rw [iEq_is, okI_is, wrapF_is, beq_false_of_ne hn]; rfl
theorem remR_is {j : IntKind} {m n : Int} (hn : n ≠ 0) : remR j (.int j m) (.int j n) h = .ok (.int j (m.tmod n)) h := by
  unfold remR
  rw [intK_is, intK_is]
  show (bif iEq n 0 then R.no else okI j (m.tmod n) h) = _
  rw [iEq_is, okI_is, beq_false_of_ne hn]; rfl
noncomputable def bitR (f : Nat → Nat → Nat) (j : IntKind) (a b : Value) (h : Hp) : R := bitF f j (natK j a) (natK j b) h
theorem oBit_is {f : Nat → Nat → Nat} {j : IntKind} : oBit f j x y F e h = bitR f j (x e) (y e) h := rfl
theorem bitR_is {f : Nat → Nat → Nat} {j : IntKind} {m n : Nat} (hm : m ≤ topOf j) (hn : n ≤ topOf j) : bitR f j (.int j (m : Int)) (.int j (n : Int)) h = .ok (.int j (f m n : Nat)) h := by
  unfold bitR
  rw [natK_cast, natK_cast]
  show (bif Nat.ble m (topOf j) then (bif Nat.ble n (topOf j) then okI j (.ofNat (f m n)) h else R.no) else R.no) = _
  rw [nat_ble.2 hm, nat_ble.2 hn, okI_is]; rfl
noncomputable def shlR (j : IntKind) (a b : Value) (h : Hp) : R := shlF j (natK j a) (natV b) h
noncomputable def shrR (j : IntKind) (a b : Value) (h : Hp) : R := shrF j (natK j a) (natV b) h
theorem oShl_is {j : IntKind} : oShl j x y F e h = shlR j (x e) (y e) h := rfl
theorem oShr_is {j : IntKind} : oShr j x y F e h = shrR j (x e) (y e) h := rfl
theorem shlR_is {j q : IntKind} {m n : Nat} : shlR j (.int j (m : Int)) (.int q (n : Int)) h = .ok (.int j (j.wrap ((m * 2 ^ min n j.bits : Nat) : Int))) h := by
  unfold shlR
  rw [natK_cast, natV_cast]
  show okI j (wrapF j (.ofNat (Nat.mul m (Nat.pow 2 (minN n j.bits))))) h = _
  rw [okI_is, wrapF_is, minN_is]; rfl
theorem shrR_is {j q : IntKind} {m n : Nat} : shrR j (.int j (m : Int)) (.int q (n : Int)) h = .ok (.int j ((m / 2 ^ min n j.bits : Nat) : Int)) h := by
  unfold shrR
  rw [natK_cast, natV_cast]
  show okI j (.ofNat (Nat.div m (Nat.pow 2 (minN n j.bits)))) h = _
  rw [okI_is, minN_is]; rfl
noncomputable def convR (j : IntKind) (a : Value) (h : Hp) : R := match intV a with
  | .ok n => okI j (wrapF j n) h
  | .no => .no
theorem oConv_is {j : IntKind} : oConv j x F e h = convR j (x e) h := rfl
theorem convR_is {j q : IntKind} {n : Int} : convR j (.int q n) h = .ok (.int j (j.wrap n)) h := by
  show okI j (wrapF j n) h = _
  rw [okI_is, wrapF_is]
noncomputable def notR (a : Value) (h : Hp) : R := match a with
  | .bool b => okB (!b) h
  | _ => .no
theorem oNot_is : oNot x F e h = notR (x e) h := rfl
theorem notR_is {c : Bool} : notR (.bool c) h = .ok (.bool (!c)) h := okB_is
noncomputable def pickR (c a b : Value) (h : Hp) : R := pickV c a b h
theorem oPick_is {c : O} : oPick c x y F e h = pickR (c e) (x e) (y e) h := rfl
theorem pickR_true {v u : Value} : pickR (.bool true) v u h = .ok v h := moveR_is _ _
theorem pickR_false {v u : Value} : pickR (.bool false) v u h = .ok u h := moveR_is _ _

/-! ### calls, results -/
theorem oCall_is {g : Nat} {l : List O} : oCall g l F e h = F g (vals e l) h := forceL_is _ _
theorem call_is {bs : FT} {n f : Nat} {b : Body} (hb : bs.get f = some b) {args : List Value} : call bs (Nat.succ n) f args h = enter (call bs n) b args h := by
  show (match bs.get f with | some b => enter (call bs n) b args h | none => .no) = _
  rw [hb]
/-- what a function gives, out of how its code ends -/
theorem enter_is {rs : List RV} {c : C} {args : List Value} (hl : Nat.ble (lenL args) 320 = true) (hx : wholeF rs = none := by rfl) : enter F ⟨rs, c⟩ args h = leave rs (c F (setArgs e0 0 args) h) := by
  unfold enter
  rw [hx]
  show (bif Nat.ble (lenL args) 320 then leave rs (c F (setArgs e0 0 args) h) else .no) = _
  rw [hl]; rfl
theorem leave_ret {rs : List RV} : leave rs (.ret e h) = finish rs e h := rfl
theorem leave_norm {rs : List RV} : leave rs (.norm e h) = finish rs e h := rfl
theorem finish_1 {g : O} : finish [.t g] e h = .ok (g e) h := by
  show forceV (g e) _ = _
  rw [forceV_is]; rfl
theorem finish_2 {g g' : O} : finish [.t g, .t g'] e h = .ok (.tuple ⟨[g e, g' e]⟩) h := by
  show forceV (g e) (fun v => forceV (g' e) _) = _
  rw [forceV_is, forceV_is]; rfl
theorem finish_3 {g g' g'' : O} : finish [.t g, .t g', .t g''] e h = .ok (.tuple ⟨[g e, g' e, g'' e]⟩) h := by
  show forceV (g e) (fun v => forceV (g' e) (fun v => forceV (g'' e) _)) = _
  rw [forceV_is, forceV_is, forceV_is]; rfl
noncomputable def extractR (i : Nat) (a : Value) (h : Hp) : R := match a with
  | .tuple vs => match nth vs.toList i with
    | some v => .ok v h
    | none => .no
  | _ => .no
theorem oExtract_is {i : Nat} : oExtract i x F e h = extractR i (x e) h := by
  show (match x e with | .tuple vs => (match nth vs.toList i with | some v => forceV v fun v => .ok v h | none => .no) | _ => .no) = _
  unfold extractR
  cases x e with
  | tuple vs =>
    simp only
    cases nth vs.toList i with
    | some v => exact forceV_is _ _
    | none => rfl
  | _ => rfl
theorem extractR_0 {v : Value} {l : List Value} : extractR 0 (.tuple ⟨v :: l⟩) h = .ok v h := rfl
theorem extractR_1 {u v : Value} {l : List Value} : extractR 1 (.tuple ⟨u :: v :: l⟩) h = .ok v h := rfl
theorem extractR_2 {t u v : Value} {l : List Value} : extractR 2 (.tuple ⟨t :: u :: v :: l⟩) h = .ok v h := rfl

/-! ### structs -/
noncomputable def fieldR (agg : Bool) (size off : Nat) (a : Value) (h : Hp) : R := match a with
  | .agg cs => partL agg size cs.toList off h
  | _ => .no
theorem oField_is {g : Bool} {n m : Nat} : oField g n m x F e h = fieldR g n m (x e) h := rfl
theorem fieldR_one {n m : Nat} {l : List Value} {v : Value} (hv : l[m]? = some v) : fieldR false n m (.agg ⟨l⟩) h = .ok v h := by
  show (match nth l m with | some v => forceV v fun v => .ok v h | none => .no) = _
  rw [nth_is, hv]; exact forceV_is _ _
theorem fieldR_agg {n m : Nat} {l : List Value} : fieldR true n m (.agg ⟨l⟩) h = .ok (.agg ⟨(l.drop m).take n⟩) h := by
  show forceL (takeL n (dropL m l)) _ = _
  rw [forceL_is, takeL_is, dropL_is]
end
end Go.Proofs.Ytkafejncffinmaa

/-
  Operations on numbers, truths, strings.
-/
import Derived.Test.YtkafejncffinmaaOps
import GoSem.Dispatch
set_option linter.unusedVariables false
set_option linter.unusedSimpArgs false
namespace Go.Proofs.Ytkafejncffinmaa
open Go

section
variable {P : Program} {ty : TTy} {φ : Phi} {E : Nat → Prop} {h h' : Hp} {w : World} {F : CallF} {e : Env} {v : Value}

theorem okB_ok {b : Bool} (hr : okB b h = .ok v h') : v = .bool b ∧ h' = h := by cases b <;> cases hr <;> exact ⟨rfl, rfl⟩
theorem okI_is (k : IntKind) (n : Int) (h : Hp) : okI k n h = .ok (.int k n) h := by
  cases n with
  | ofNat m => cases m <;> rfl
  | negSucc m => show forceN m (fun m => R.ok (.int k (.negSucc m)) h) = _; rw [forceN_is]
theorem okI_ok {k : IntKind} {n : Int} (hr : okI k n h = .ok v h') : v = .int k n ∧ h' = h := by
  rw [okI_is] at hr; cases hr; exact ⟨rfl, rfl⟩

theorem iLt_oo (a b : Nat) : iLt (.ofNat a) (.ofNat b) = Nat.blt a b := rfl
theorem iLt_on (a b : Nat) : iLt (.ofNat a) (.negSucc b) = false := rfl
theorem iLt_no (a b : Nat) : iLt (.negSucc a) (.ofNat b) = true := rfl
theorem iLt_nn (a b : Nat) : iLt (.negSucc a) (.negSucc b) = Nat.blt b a := rfl
theorem iEq_oo (a b : Nat) : iEq (.ofNat a) (.ofNat b) = Nat.beq a b := rfl
theorem iEq_on (a b : Nat) : iEq (.ofNat a) (.negSucc b) = false := rfl
theorem iEq_no (a b : Nat) : iEq (.negSucc a) (.ofNat b) = false := rfl
theorem iEq_nn (a b : Nat) : iEq (.negSucc a) (.negSucc b) = Nat.beq a b := rfl
theorem iLt_is (a b : Int) : iLt a b = decide (a < b) := by
  cases a <;> cases b <;> simp only [iLt_oo, iLt_on, iLt_no, iLt_nn]
  · rename_i a b
    rw [Bool.eq_iff_iff, nat_blt, decide_eq_true_iff]; exact Int.ofNat_lt.symm
  · simp only [Int.ofNat_eq_natCast]; symm; rw [decide_eq_false_iff_not]; omega
  · simp only [Int.ofNat_eq_natCast]; symm; rw [decide_eq_true_iff]; omega
  · rename_i a b
    rw [Bool.eq_iff_iff, nat_blt, decide_eq_true_iff]; omega
theorem iEq_is (a b : Int) : iEq a b = (a == b) := by
  cases a <;> cases b <;> simp only [iEq_oo, iEq_on, iEq_no, iEq_nn]
  · rename_i a b
    rw [Bool.eq_iff_iff, nat_beq, beq_iff_eq]; simp only [Int.ofNat_eq_natCast]; omega
  · simp only [Int.ofNat_eq_natCast]; symm; rw [beq_eq_false_iff_ne]; omega
  · simp only [Int.ofNat_eq_natCast]; symm; rw [beq_eq_false_iff_ne]; omega
  · rename_i a b
    rw [Bool.eq_iff_iff, nat_beq, beq_iff_eq]; omega
theorem topOf_lt (k : IntKind) : ((topOf k : Nat) : Int) < 2 ^ k.bits ∧ (k.signed = true → ((topOf k : Nat) : Int) < 2 ^ (k.bits - 1)) := by
  cases k <;> decide
theorem wrap_small (k : IntKind) (m : Nat) (h : m ≤ topOf k) : k.wrap (m : Int) = m := by
  have h1 := topOf_lt k
  unfold IntKind.wrap
  have e : ((m : Int)) % (2 ^ k.bits : Int) = m := Int.emod_eq_of_lt (by omega) (by omega)
  rw [e]
  simp only
  rw [if_neg]
  intro hh
  simp only [Bool.and_eq_true, decide_eq_true_eq] at hh
  have := h1.2 hh.1
  omega
theorem wrapF_is (k : IntKind) (n : Int) : wrapF k n = k.wrap n := by
  cases n with
  | ofNat m =>
    show Bool.rec (motive := fun _ => Int) (k.wrap (.ofNat m)) (.ofNat m) (Nat.ble m (topOf k)) = _
    cases hb : Nat.ble m (topOf k) with
    | false => rfl
    | true => exact (wrap_small k m (nat_ble.1 hb)).symm
  | negSucc m => rfl
theorem sameK_eq {a b : IntKind} (h : sameK a b = true) : b = a := by
  have := nat_beq.1 h
  cases a <;> cases b <;> first | rfl | (exact absurd this (by decide))
theorem intK_ok {k : IntKind} {x : Value} {n : Int} (h : intK k x = .ok n) : x = .int k n := by
  cases x <;> first | (cases h; done) | skip
  rename_i q m
  have h : Bool.rec (motive := fun _ => NI) .no (.ok m) (sameK k q) = .ok n := h
  cases hs : sameK k q with
  | false => rw [hs] at h; cases h
  | true => rw [hs] at h; cases h; rw [sameK_eq hs]
theorem natK_ok {k : IntKind} {x : Value} {n : Nat} (h : natK k x = .ok n) : x = .int k n := by
  cases x <;> first | (cases h; done) | skip
  rename_i q m
  have h : Bool.rec (motive := fun _ => NN) .no (Int.rec (motive := fun _ => NN) (fun m => .ok m) (fun _ => .no) m) (sameK k q) = .ok n := h
  cases hs : sameK k q with
  | false => rw [hs] at h; cases h
  | true =>
    rw [hs] at h
    cases m with
    | ofNat m => cases h; rw [sameK_eq hs]; rfl
    | negSucc m => cases h
theorem intV_ok {x : Value} {n : Int} (h : intV x = .ok n) : ∃ k, x = .int k n := by
  cases x <;> first | (cases h; done) | (cases h; exact ⟨_, rfl⟩)
theorem natV_ok {x : Value} {n : Nat} (h : natV x = .ok n) : ∃ k, x = .int k n := by
  cases x <;> first | (cases h; done) | skip
  rename_i q m
  cases m with
  | ofNat m => cases h; exact ⟨_, rfl⟩
  | negSucc m => cases h
theorem adrV_ok {x : Value} {a : Addr} (h : adrV x = .ok a) : x = .pointer (some a) := by
  cases x <;> first | (cases h; done) | skip
  rename_i o
  cases o with
  | none => cases h
  | some a => cases h; rfl
theorem RelV.int_inv {k : IntKind} {n : Int} {x : Value} (h : RelV φ (.int k n) x) : x = .int k n := by cases h; rfl
theorem RelV.bool_inv {b : Bool} {x : Value} (h : RelV φ (.bool b) x) : x = .bool b := by cases h; rfl
theorem RelV.string_inv {s : ByteArray} {x : Value} (h : RelV φ (.string s) x) : x = .string s := by cases h; rfl
theorem RelV.ptr_inv {a : Addr} {x : Value} (h : RelV φ (.pointer (some a)) x) : ∃ a', x = .pointer (some a') ∧ RelA φ a a' := by
  cases h with | ptr h => exact ⟨_, rfl, h⟩

/-- a comparison's or an operation's own check, then it -/
def binRun (op : BinOp) (t : TypeId) (X Y : Operand) (a b : Value) : Sem Value := do eqGuard op t X Y a b; binOp op t a b

theorem guard_int (op : BinOp) (t : TypeId) (X Y : Operand) (j k : IntKind) (m n : Int) : (eqGuard op t X Y (.int j m) (.int k n)).run P w = .ok () w := by cases op <;> rfl
theorem guard_str (op : BinOp) (t : TypeId) (X Y : Operand) (m n : ByteArray) : (eqGuard op t X Y (.string m) (.string n)).run P w = .ok () w := by cases op <;> rfl

theorem oMove_ok (H : RelW ty φ E h w) {x : O} {x' : Value} (hx : RelV φ (x e) x') (hr : oMove x F e h = .ok v h') : Gives ty φ E h w v h' (.ok x' w) := by
  unfold oMove at hr; rw [moveR_is] at hr; cases hr; exact .same H hx
theorem oPick_ok (H : RelW ty φ E h w) {c a b : O} {c' a' b' : Value} (hc : RelV φ (c e) c') (ha : RelV φ (a e) a') (hb : RelV φ (b e) b') (hr : oPick c a b F e h = .ok v h') :
    Gives ty φ E h w v h' ((do pure (if ← asBool c' then a' else b') : Sem Value).run P w) := by
  unfold oPick at hr
  cases hce : c e with
  | bool t =>
    rw [hce] at hr hc
    obtain rfl := hc.bool_inv
    cases t with
    | false =>
      have hr : moveR (b e) h = .ok v h' := hr
      rw [moveR_is] at hr; cases hr; exact .same H hb
    | true =>
      have hr : moveR (a e) h = .ok v h' := hr
      rw [moveR_is] at hr; cases hr; exact .same H ha
  | _ => rw [hce] at hr; cases hr
theorem cmp_ok (H : RelW ty φ E h w) {f : Int → Int → Bool} {k : IntKind} {x y : O} {x' y' : Value} (hx : RelV φ (x e) x') (hy : RelV φ (y e) y') (hr : oCmp f k x y F e h = .ok v h') :
    ∃ m n, x' = .int k m ∧ y' = .int k n ∧ v = .bool (f m n) ∧ h' = h := by
  unfold oCmp cmpF at hr
  cases h1 : intK k (x e) with
  | no => rw [h1] at hr; cases hr
  | ok m =>
    cases h2 : intK k (y e) with
    | no => rw [h1, h2] at hr; cases hr
    | ok n =>
      rw [h1, h2] at hr
      rw [intK_ok h1] at hx; rw [intK_ok h2] at hy
      obtain ⟨r1, r2⟩ := okB_ok hr
      exact ⟨m, n, hx.int_inv, hy.int_inv, r1, r2⟩
theorem oCmp_ok (H : RelW ty φ E h w) {f : Int → Int → Bool} {op : BinOp} (hop : (f = iEq ∧ op = .eql) ∨ (f = iNe ∧ op = .neq) ∨ (f = iLt ∧ op = .lss) ∨ (f = iLe ∧ op = .leq) ∨ (f = iGt ∧ op = .gtr) ∨ (f = iGe ∧ op = .geq))
    {k : IntKind} {x y : O} {x' y' : Value} {t : TypeId} {X Y : Operand} (hx : RelV φ (x e) x') (hy : RelV φ (y e) y') (hr : oCmp f k x y F e h = .ok v h') : Gives ty φ E h w v h' ((binRun op t X Y x' y').run P w) := by
  obtain ⟨m, n, rfl, rfl, rfl, rfl⟩ := cmp_ok H hx hy hr
  have key : (binRun op t X Y (.int k m) (.int k n)).run P w = .ok (.bool (f m n)) w := by
    unfold binRun
    rw [Sem.run_bind, guard_int, Result.andThen_ok]
    rcases hop with ⟨rfl, rfl⟩ | ⟨rfl, rfl⟩ | ⟨rfl, rfl⟩ | ⟨rfl, rfl⟩ | ⟨rfl, rfl⟩ | ⟨rfl, rfl⟩ <;>
      simp only [binOp, ne_eq, not_true_eq_false, if_false, Op.intCmp, Sem.run_pure, Result.ok.injEq, Value.bool.injEq, and_true, iNe, iLe, iGt, iGe, iLt_is, iEq_is]
    · rfl
    · rw [Bool.eq_iff_iff]; simp only [decide_eq_true_iff, Bool.not_eq_true', decide_eq_false_iff_not]; omega
    · rw [Bool.eq_iff_iff]; simp only [decide_eq_true_iff, Bool.not_eq_true', decide_eq_false_iff_not]; omega
  rw [key]; exact .same H (.bool _)

theorem two_int {k : IntKind} {x y : O} {x' y' : Value} (hx : RelV φ (x e) x') (hy : RelV φ (y e) y') {g : Int → Int → R} {r : R}
    (hr : NI.rec (motive := fun _ => R) .no (fun a => NI.rec (motive := fun _ => R) .no (fun b => g a b) (intK k (y e))) (intK k (x e)) = r) (hne : r ≠ .no) :
    ∃ m n, x' = .int k m ∧ y' = .int k n ∧ g m n = r := by
  cases h1 : intK k (x e) with
  | no => rw [h1] at hr; exact absurd hr.symm hne
  | ok m =>
    cases h2 : intK k (y e) with
    | no => rw [h1, h2] at hr; exact absurd hr.symm hne
    | ok n =>
      rw [h1, h2] at hr
      rw [intK_ok h1] at hx; rw [intK_ok h2] at hy
      exact ⟨m, n, hx.int_inv, hy.int_inv, hr⟩
theorem oAri_ok (H : RelW ty φ E h w) {f : Int → Int → Int} {op : BinOp} (hop : (f = Int.sub ∧ op = .sub) ∨ (f = Int.mul ∧ op = .mul))
    {k : IntKind} {x y : O} {x' y' : Value} {t : TypeId} {X Y : Operand} (hx : RelV φ (x e) x') (hy : RelV φ (y e) y') (hr : oAri f k x y F e h = .ok v h') : Gives ty φ E h w v h' ((binRun op t X Y x' y').run P w) := by
  obtain ⟨m, n, rfl, rfl, hg⟩ := two_int hx hy hr (by intro h; cases h)
  obtain ⟨rfl, rfl⟩ := okI_ok hg
  have key : (binRun op t X Y (.int k m) (.int k n)).run P w = .ok (.int k (wrapF k (f m n))) w := by
    unfold binRun
    rw [Sem.run_bind, guard_int, Result.andThen_ok, wrapF_is]
    rcases hop with ⟨rfl, rfl⟩ | ⟨rfl, rfl⟩ <;>
      simp only [binOp, ne_eq, not_true_eq_false, if_false, Op.intArith, Sem.run_pure] <;> rfl
  rw [key]; exact .same H (.int _ _)
theorem add_is {k : IntKind} {a b : Int} (hr : Int.rec (motive := fun _ => R) (fun x => Int.rec (motive := fun _ => R)
      (fun y => Bool.rec (motive := fun _ => R) (okI k (k.wrap (a + b)) h) (forceN (Nat.add x y) fun n => .ok (.int k (.ofNat n)) h) (Nat.ble (Nat.add x y) (topOf k)))
      (fun _ => okI k (wrapF k (a + b)) h) b)
      (fun _ => okI k (wrapF k (a + b)) h) a = .ok v h') : v = .int k (k.wrap (a + b)) ∧ h' = h := by
  cases a with
  | negSucc a =>
    have := okI_ok hr; rw [wrapF_is] at this; exact this
  | ofNat a =>
    cases b with
    | negSucc b => have := okI_ok hr; rw [wrapF_is] at this; exact this
    | ofNat b =>
      simp only at hr
      cases hb : Nat.ble (Nat.add a b) (topOf k) with
      | false => rw [hb] at hr; exact okI_ok hr
      | true =>
        rw [hb] at hr
        simp only [forceN_is] at hr
        cases hr
        refine ⟨?_, rfl⟩
        have := wrap_small k (a + b) (nat_ble.1 hb)
        simp only [Int.ofNat_eq_natCast]
        rw [← Int.natCast_add, this]; rfl
theorem oAdd_ok (H : RelW ty φ E h w) {k : IntKind} {x y : O} {x' y' : Value} {t : TypeId} {X Y : Operand} (hx : RelV φ (x e) x') (hy : RelV φ (y e) y') (hr : oAdd k (topOf k) x y F e h = .ok v h') :
    Gives ty φ E h w v h' ((binRun .add t X Y x' y').run P w) := by
  obtain ⟨m, n, rfl, rfl, hg⟩ := two_int hx hy hr (by intro h; cases h)
  obtain ⟨rfl, rfl⟩ := add_is hg
  have key : (binRun .add t X Y (.int k m) (.int k n)).run P w = .ok (.int k (k.wrap (m + n))) w := by
    unfold binRun
    rw [Sem.run_bind, guard_int, Result.andThen_ok]
    simp only [binOp, ne_eq, not_true_eq_false, if_false, Op.intArith, Sem.run_pure]
  rw [key]; exact .same H (.int _ _)
theorem iEq_zero {n : Int} (hb : iEq n 0 = false) : n ≠ 0 := by
  rw [iEq_is] at hb; simpa using hb
theorem oDiv_ok (H : RelW ty φ E h w) {k : IntKind} {x y : O} {x' y' : Value} {t : TypeId} {X Y : Operand} (hx : RelV φ (x e) x') (hy : RelV φ (y e) y') (hr : oDiv k x y F e h = .ok v h') :
    Gives ty φ E h w v h' ((binRun .quo t X Y x' y').run P w) := by
  unfold oDiv divF at hr
  split at hr
  case h_2 => cases hr
  rename_i m h1
  split at hr
  case h_2 => cases hr
  rename_i n h2
  rw [intK_ok h1] at hx; rw [intK_ok h2] at hy
  obtain rfl := hx.int_inv; obtain rfl := hy.int_inv
  cases hb : iEq n 0 with
  | true => rw [hb] at hr; cases hr
  | false =>
    rw [hb] at hr
    obtain ⟨rfl, rfl⟩ := okI_ok hr
    have key : (binRun .quo t X Y (.int k m) (.int k n)).run P w = .ok (.int k (wrapF k (m.tdiv n))) w := by
      unfold binRun
      rw [Sem.run_bind, guard_int, Result.andThen_ok, wrapF_is]
      simp only [binOp, ne_eq, not_true_eq_false, if_false, Op.intDiv, iEq_zero hb, Sem.run_pure]
    rw [key]; exact .same H (.int _ _)
theorem oRem_ok (H : RelW ty φ E h w) {k : IntKind} {x y : O} {x' y' : Value} {t : TypeId} {X Y : Operand} (hx : RelV φ (x e) x') (hy : RelV φ (y e) y') (hr : oRem k x y F e h = .ok v h') :
    Gives ty φ E h w v h' ((binRun .rem t X Y x' y').run P w) := by
  unfold oRem remF at hr
  split at hr
  case h_2 => cases hr
  rename_i m h1
  split at hr
  case h_2 => cases hr
  rename_i n h2
  rw [intK_ok h1] at hx; rw [intK_ok h2] at hy
  obtain rfl := hx.int_inv; obtain rfl := hy.int_inv
  cases hb : iEq n 0 with
  | true => rw [hb] at hr; cases hr
  | false =>
    rw [hb] at hr
    obtain ⟨rfl, rfl⟩ := okI_ok hr
    have key : (binRun .rem t X Y (.int k m) (.int k n)).run P w = .ok (.int k (m.tmod n)) w := by
      unfold binRun
      rw [Sem.run_bind, guard_int, Result.andThen_ok]
      simp only [binOp, ne_eq, not_true_eq_false, if_false, Op.intDiv, iEq_zero hb, Sem.run_pure]
    rw [key]; exact .same H (.int _ _)
theorem oNot_ok (H : RelW ty φ E h w) {x : O} {x' : Value} (hx : RelV φ (x e) x') (hr : oNot x F e h = .ok v h') : Gives ty φ E h w v h' ((Op.unary .not x').run P w) := by
  unfold oNot at hr
  split at hr
  · rename_i b hb
    rw [hb] at hx; obtain rfl := hx.bool_inv
    obtain ⟨rfl, rfl⟩ := okB_ok hr
    exact .same H (.bool _)
  · cases hr
theorem oNeg_ok (H : RelW ty φ E h w) {k : IntKind} {x : O} {x' : Value} (hx : RelV φ (x e) x') (hr : oNeg k x F e h = .ok v h') : Gives ty φ E h w v h' ((Op.unary .neg x').run P w) := by
  unfold oNeg at hr
  split at hr
  · rename_i n hn
    rw [intK_ok hn] at hx; obtain rfl := hx.int_inv
    obtain ⟨rfl, rfl⟩ := okI_ok hr
    rw [wrapF_is]
    exact .same H (.int _ _)
  · cases hr
theorem oConv_ok (H : RelW ty φ E h w) {k : IntKind} {x : O} {x' : Value} (hx : RelV φ (x e) x') (hr : oConv k x F e h = .ok v h') :
    ∃ q n, x' = .int q n ∧ Gives ty φ E h w v h' ((Conv.intToInt k n).run P w) := by
  unfold oConv at hr
  split at hr
  · rename_i n hn
    obtain ⟨q, hq⟩ := intV_ok hn
    rw [hq] at hx; obtain rfl := hx.int_inv
    obtain ⟨rfl, rfl⟩ := okI_ok hr
    rw [wrapF_is]
    exact ⟨q, n, rfl, .same H (.int _ _)⟩
  · cases hr
end
end Go.Proofs.Ytkafejncffinmaa

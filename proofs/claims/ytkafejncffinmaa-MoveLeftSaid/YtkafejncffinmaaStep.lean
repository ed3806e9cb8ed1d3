/-
  One operation: what the machine says is what the model does.
-/
import Derived.Test.YtkafejncffinmaaEql
import Derived.Calls
set_option linter.unusedSimpArgs false
set_option linter.unusedVariables false
namespace Go.Proofs.Ytkafejncffinmaa
open Go

section
variable {P : Program} {ty : TTy} {φ : Phi} {E : Nat → Prop} {h h' : Hp} {w : World} {F : CallF} {e : Env} {v : Value} {f : Fr}

theorem wTy_ok {t : Nat} {k : TI → OpF} (hr : wTy ty t k F e h = .ok v h') : ∃ ti, ty.get t = some ti ∧ k ti F e h = .ok v h' := by
  unfold wTy at hr
  cases hg : ty.get t with
  | none => rw [hg] at hr; cases hr
  | some ti => rw [hg] at hr; exact ⟨ti, rfl, hr⟩
theorem w1_ok {x : Operand} {k : O → OpF} (hr : w1 f x k F e h = .ok v h') : ∃ y, cO f x = some y ∧ k y F e h = .ok v h' := by
  unfold w1 at hr
  cases hg : cO f x with
  | none => rw [hg] at hr; cases hr
  | some y => rw [hg] at hr; exact ⟨y, rfl, hr⟩
theorem w2_ok {x y : Operand} {k : O → O → OpF} (hr : w2 f x y k F e h = .ok v h') : ∃ x' y', cO f x = some x' ∧ cO f y = some y' ∧ k x' y' F e h = .ok v h' := by
  unfold w2 at hr
  obtain ⟨x', hx, hr⟩ := w1_ok hr
  obtain ⟨y', hy, hr⟩ := w1_ok hr
  exact ⟨x', y', hx, hy, hr⟩
theorem wZ_ok {ti : TI} {k : OpF} (hr : wZ ti k F e h = .ok v h') : ti.zero.length = ti.size ∧ k F e h = .ok v h' := by
  unfold wZ at hr
  cases hg : Nat.beq (lenL ti.zero) ti.size with
  | false => rw [hg] at hr; cases hr
  | true => rw [hg] at hr; exact ⟨by rw [← nat_beq.1 hg, lenL_is], hr⟩
theorem oNo_ok (hr : oNo F e h = .ok v h') : False := by cases hr

/-- a call, as the machine has it -/
def CallOk (P : Program) (ty : TTy) (F : CallF) : Prop := ∀ g args h v h', F g args h = .ok v h' →
  (∃ fn, P.funcs[g]? = some fn ∧ fn.name ≠ "runtime.NumGoroutine" ∧ fn.body.isNone = false) ∧
  ∀ φ w args', RelL φ args args' → RelW ty φ (fun _ => False) h w →
    Calls P g ⟨args'⟩ w fun en w' => ∃ v' ψ, en = .returned v' ∧ RelV ψ v v' ∧ RelW ty ψ (fun _ => False) h' w' ∧ Evo φ h w ψ h' w'

/-- an operation that goes on with what the machine says -/
def OpDoes (P : Program) (ty : TTy) (φ : Phi) (E : Nat → Prop) (h : Hp) (v : Value) (h' : Hp) (o : Oper) (a : Act) (w : World) : Prop :=
  ∀ (next : Act → World → Prop) (Q : Exit → Act → World → Prop),
    (∀ ψ v' w', RelV ψ v v' → RelW ty ψ E h' w' → Evo φ h w ψ h' w' → next (a.put o.dst v') w') → o.wp P a w next Q

theorem OpDoes.of_gives {o : Oper} {a : Act} {s : Sem Value} (hx : execOp a.eval o = (do pure (.value (← s)))) (hg : Gives ty φ E h w v h' (s.run P w)) : OpDoes P ty φ E h v h' o a w := by
  intro next Q hn
  obtain ⟨v', w', ψ, hs, hv, H, ev⟩ := hg
  unfold Oper.wp
  rw [hx, Sem.run_bind, hs, Result.andThen_ok, Sem.run_pure, Oper.upon_value]
  exact hn ψ v' w' hv H ev
theorem OpDoes.of_skips {o : Oper} {a : Act} {s : Sem Unit} (hx : execOp a.eval o = (do s; pure .skip)) (hg : Skips ty φ E h w v h' (s.run P w)) : OpDoes P ty φ E h v h' o a w := by
  intro next Q hn
  obtain ⟨rfl, w', hs, H, ev⟩ := hg
  unfold Oper.wp
  rw [hx, Sem.run_bind, hs, Result.andThen_ok, Sem.run_pure, Oper.upon_skip]
  exact hn φ undef w' (.tuple .nil) H ev

theorem parts_ok {place : Nat → Option (Nat × Nat)} {ρ : Operand → Value} : ∀ {l : List (Nat × Operand)} {ps : List (Nat × Nat × O)}, partsC f place l = some ps →
    (∀ p ∈ l, ∀ y, cO f p.2 = some y → RelV φ (y e) (ρ p.2)) → RelP φ e place ps (l.map fun (i, x) => (i, ρ x))
  | [], ps, hp, _ => by cases hp; exact .nil
  | (i, x) :: l, ps, hp, hst => by
    unfold partsC at hp
    split at hp
    · rename_i off size hpl
      split at hp
      · rename_i y hy
        split at hp
        · rename_i r hr
          cases hp
          exact .cons hpl (hst (i, x) (by simp) y hy) (parts_ok hr fun p hp => hst p (by simp [hp]))
        · cases hp
      · cases hp
    · cases hp
theorem cOs_ok {ρ : Operand → Value} : ∀ {l : List Operand} {ys : List O}, cOs f l = some ys → (∀ x ∈ l, ∀ y, cO f x = some y → RelV φ (y e) (ρ x)) → RelL φ (vals e ys) (l.map ρ)
  | [], ys, h, _ => by cases h; exact .nil
  | x :: l, ys, h, hst => by
    unfold cOs at h
    split at h
    · rename_i y hy
      split at h
      · rename_i r hr
        cases h
        exact .cons (hst x (by simp) y hy) (cOs_ok hr fun x hx => hst x (by simp [hx]))
      · cases h
    · cases h
theorem cOo_ok {ρ : Operand → Value} {x : Option Operand} {y : Option O} (h : cOo f x = some y) (hst : ∀ z, x = some z → ∀ y, cO f z = some y → RelV φ (y e) (ρ z)) : RelO φ e y (x.map ρ) := by
  unfold cOo at h
  split at h
  · cases h; exact .none
  · rename_i x
    split at h
    · rename_i y hy; cases h; exact .some (hst x rfl y hy)
    · cases h

/-- the operands that an operation names, on both sides -/
def Names (φ : Phi) (f : Fr) (e : Env) (ρ : Operand → Value) (op : Op) : Prop := ∀ x ∈ op.operands.toList, ∀ y, cO f x = some y → RelV φ (y e) (ρ x)
/-- what an operation whose order is open reads is none of what has changed -/
def Touch (ty : TTy) (f : Fr) (e : Env) (E : Nat → Prop) (op : Op) : Prop := match kd ty op with
  | .p => True
  | .a => True
  | .r x => ∀ y, cO f x = some y → ∀ b, blkOf (y e) = .ok b → ¬ E b
  | .w _ => ∀ b, ¬ E b
  | .q => ∀ b, ¬ E b

theorem bin_ok (hT : TabOk P ty) (H : RelW ty φ E h w) {op : BinOp} {t yt : TypeId} {x y : Operand} {o : Oper} {a : Act} (ho : o.op = .binOp op t x y yt) (hst : Names φ f e a.eval o.op) (hr : binC ty f op t x y F e h = .ok v h') : OpDoes P ty φ E h v h' o a w := by
  have hx : execOp a.eval o = (do pure (.value (← binRun op t x y (a.eval x) (a.eval y)))) := by unfold execOp; rw [ho]; rfl
  unfold binC at hr
  obtain ⟨ti, hti, hr⟩ := wTy_ok hr
  obtain ⟨x', y', hx', hy', hr⟩ := w2_ok hr
  have r1 := hst x (by rw [ho]; simp [Op.operands]) x' hx'
  have r2 := hst y (by rw [ho]; simp [Op.operands]) y' hy'
  cases hk : ti.k with
  | int k =>
    rw [hk] at hr
    cases op with
    | add => exact .of_gives hx (oAdd_ok H r1 r2 hr)
    | sub => exact .of_gives hx (oAri_ok H (.inl ⟨rfl, rfl⟩) r1 r2 hr)
    | mul => exact .of_gives hx (oAri_ok H (.inr ⟨rfl, rfl⟩) r1 r2 hr)
    | quo => exact .of_gives hx (oDiv_ok H r1 r2 hr)
    | rem => exact .of_gives hx (oRem_ok H r1 r2 hr)
    | and => exact .of_gives hx (oBit_ok H (.inl ⟨rfl, rfl⟩) r1 r2 hr)
    | or => exact .of_gives hx (oBit_ok H (.inr (.inl ⟨rfl, rfl⟩)) r1 r2 hr)
    | xor => exact .of_gives hx (oBit_ok H (.inr (.inr ⟨rfl, rfl⟩)) r1 r2 hr)
    | shl => exact .of_gives hx (oShl_ok H r1 r2 hr)
    | shr => exact .of_gives hx (oShr_ok H r1 r2 hr)
    | andNot => cases hr
    | eql => exact .of_gives hx (oCmp_ok H (.inl ⟨rfl, rfl⟩) r1 r2 hr)
    | neq => exact .of_gives hx (oCmp_ok H (.inr (.inl ⟨rfl, rfl⟩)) r1 r2 hr)
    | lss => exact .of_gives hx (oCmp_ok H (.inr (.inr (.inl ⟨rfl, rfl⟩))) r1 r2 hr)
    | leq => exact .of_gives hx (oCmp_ok H (.inr (.inr (.inr (.inl ⟨rfl, rfl⟩)))) r1 r2 hr)
    | gtr => exact .of_gives hx (oCmp_ok H (.inr (.inr (.inr (.inr (.inl ⟨rfl, rfl⟩))))) r1 r2 hr)
    | geq => exact .of_gives hx (oCmp_ok H (.inr (.inr (.inr (.inr (.inr ⟨rfl, rfl⟩))))) r1 r2 hr)
  | string =>
    rw [hk] at hr
    cases op with
    | add => exact .of_gives hx (oCat_ok H r1 r2 hr)
    | eql => exact .of_gives hx (oStr_ok H (.inl ⟨rfl, rfl⟩) r1 r2 hr)
    | neq => exact .of_gives hx (oStr_ok H (.inr (.inl ⟨rfl, rfl⟩)) r1 r2 hr)
    | lss => exact .of_gives hx (oStr_ok H (.inr (.inr (.inl ⟨rfl, rfl⟩))) r1 r2 hr)
    | gtr => exact .of_gives hx (oStr_ok H (.inr (.inr (.inr (.inl ⟨rfl, rfl⟩)))) r1 r2 hr)
    | leq => exact .of_gives hx (oStr_ok H (.inr (.inr (.inr (.inr (.inl ⟨rfl, rfl⟩))))) r1 r2 hr)
    | geq => exact .of_gives hx (oStr_ok H (.inr (.inr (.inr (.inr (.inr ⟨rfl, rfl⟩))))) r1 r2 hr)
    | _ => cases hr
  | struct fs =>
    rw [hk] at hr
    simp only at hr
    cases hf : flatK ty 8 t with
    | none => rw [hf] at hr; cases hr
    | some ks =>
      rw [hf] at hr
      have hag : ti.k.agg = true := by rw [hk]; rfl
      cases op with
      | eql => exact .of_gives hx (oEqC_ok hT H (K := ⟨true, ks⟩) (.inl ⟨rfl, rfl⟩) hti hag hf rfl r1 r2 hr)
      | neq => exact .of_gives hx (oEqC_ok hT H (K := ⟨true, ks⟩) (.inr ⟨rfl, rfl⟩) hti hag hf rfl r1 r2 hr)
      | _ => cases hr
  | arr n el =>
    rw [hk] at hr
    simp only at hr
    cases hf : flatK ty 8 t with
    | none => rw [hf] at hr; cases hr
    | some ks =>
      rw [hf] at hr
      have hag : ti.k.agg = true := by rw [hk]; rfl
      cases op with
      | eql => exact .of_gives hx (oEqC_ok hT H (K := ⟨true, ks⟩) (.inl ⟨rfl, rfl⟩) hti hag hf rfl r1 r2 hr)
      | neq => exact .of_gives hx (oEqC_ok hT H (K := ⟨true, ks⟩) (.inr ⟨rfl, rfl⟩) hti hag hf rfl r1 r2 hr)
      | _ => cases hr
  | iface =>
    rw [hk] at hr
    have hr : (match isNilO y with | true => (match op with | .eql => oNilI false x' | .neq => oNilI true x' | _ => oNo) | false => oNo) F e h = .ok v h' := hr
    cases hn : isNilO y with
    | false => rw [hn] at hr; cases hr
    | true =>
      rw [hn] at hr
      have hy : y = .const .nilIface := by
        unfold isNilO at hn
        split at hn
        · split at hn
          · rfl
          · cases hn
        · cases hn
      subst hy
      cases op with
      | eql => exact .of_gives hx (oNilI_ok H (.inl ⟨rfl, rfl⟩) (hT t ti hti) hk r1 hr)
      | neq => exact .of_gives hx (oNilI_ok H (.inr ⟨rfl, rfl⟩) (hT t ti hti) hk r1 hr)
      | _ => cases hr
  | _ =>
    rw [hk] at hr
    cases op with
    | eql => exact .of_gives hx (oEq_ok H (.inl ⟨rfl, rfl⟩) (hT t ti hti) hk r1 r2 hr)
    | neq => exact .of_gives hx (oEq_ok H (.inr ⟨rfl, rfl⟩) (hT t ti hti) hk r1 r2 hr)
    | _ => cases hr
end
end Go.Proofs.Ytkafejncffinmaa

/-
  Two values held against each other: what is no number and no string.
-/
import Derived.Test.YtkafejncffinmaaKeys
set_option linter.unusedSimpArgs false
set_option linter.unusedVariables false
namespace Go.Proofs.Ytkafejncffinmaa
open Go

section
variable {P : Program} {ty : TTy} {φ : Phi} {E : Nat → Prop} {h h' : Hp} {w : World} {F : CallF} {e : Env} {v : Value} {f : Fr}

/-- neither a number nor a string nor a struct -/
def headV : Value → Bool
  | .bool _ | .pointer _ | .slice _ _ _ | .map _ | .func _ _ _ | .nilFunc => true
  | _ => false
theorem bin_eq {op : BinOp} {neg : Bool} (hop : (op = .eql ∧ neg = false) ∨ (op = .neq ∧ neg = true)) {t : TypeId} {X Y : Operand} {a b : Value} (ha : headV a = true ∨ ∃ l, a = .agg l) (hg : (eqGuard op t X Y a b).run P w = .ok () w)
    {r : Bool} (hr : (Op.equal t a b).run P w = .ok r w) : (binRun op t X Y a b).run P w = .ok (.bool (neg != r)) w := by
  unfold binRun
  rw [Sem.run_bind, hg, Result.andThen_ok]
  have : binOp op t a b = (do pure (.bool (neg != (← Op.equal t a b)))) := by
    rcases hop with ⟨rfl, rfl⟩ | ⟨rfl, rfl⟩
    · rcases ha with ha | ⟨l, rfl⟩
      · cases a <;> first | (cases ha; done) | skip
        all_goals (simp [binOp]; try rfl)
      · simp [binOp]
    · rcases ha with ha | ⟨l, rfl⟩
      · cases a <;> first | (cases ha; done) | skip
        all_goals (simp [binOp]; try rfl)
      · simp [binOp]
  rw [this, Sem.run_bind, hr, Result.andThen_ok, Sem.run_pure]
theorem guard_head {op : BinOp} {t : TypeId} {X Y : Operand} {a b : Value} (ha : headV a = true) : (eqGuard op t X Y a b).run P w = .ok () w := by
  cases op <;> first | rfl | skip
  all_goals (cases a <;> first | (cases ha; done) | rfl)
theorem guard_agg {op : BinOp} {t : TypeId} {X Y : Operand} {a b : Array Value} (hg : P.eqGuardType P.depth t = false) : (eqGuard op t X Y (.agg a) (.agg b)).run P w = .ok () w := by
  cases op <;> first | rfl | skip
  all_goals (simp [eqGuard, hg])

theorem eqV_in (n : Nat) {k : TK} {x y x' y' : Value} {r : Bool} (hr : eqV k x y = some r) (hx : RelV φ x x') (hy : RelV φ y y') {t : Nat} {d : TypeDesc} (hd : P.underlying t = some d) (hk : KOk P k d) (w : World) :
    headV x' = true ∧ (Op.equalIn (n + 1) t x' y').run P w = .ok r w := by
  unfold eqV at hr
  split at hr
  case h_11 => cases hr
  all_goals (cases hr; cases hk; first | skip | (rename_i ho; cases ho))
  all_goals (cases hx; cases hy)
  all_goals (refine ⟨rfl, ?_⟩; simp [Op.equalIn, run_underlying hd])
theorem eqV_ok {k : TK} {x y x' y' : Value} {r : Bool} (hr : eqV k x y = some r) (hx : RelV φ x x') (hy : RelV φ y y') {t : Nat} {d : TypeDesc} (hd : P.underlying t = some d) (hk : KOk P k d) (w : World) :
    headV x' = true ∧ (Op.equal t x' y').run P w = .ok r w := eqV_in 9999 hr hx hy hd hk w
theorem oEq_ok (H : RelW ty φ E h w) {k : TK} {op : BinOp} {neg : Bool} (hop : (op = .eql ∧ neg = false) ∨ (op = .neq ∧ neg = true)) {t : Nat} {ti : TI} (T : TyOk P t ti) (hk : ti.k = k) {X Y : Operand} {x y : O} {x' y' : Value}
    (hx : RelV φ (x e) x') (hy : RelV φ (y e) y') (hr : oEq k neg x y F e h = .ok v h') : Gives ty φ E h w v h' ((binRun op t X Y x' y').run P w) := by
  obtain ⟨d, hd, hkd⟩ := T.und
  rw [hk] at hkd
  unfold oEq at hr
  split at hr
  case h_2 => cases hr
  rename_i r hq
  obtain ⟨rfl, rfl⟩ := okB_ok hr
  obtain ⟨h1, h2⟩ := eqV_ok hq hx hy hd hkd w
  rw [bin_eq hop (.inl h1) (guard_head h1) h2]
  exact .same H (.bool _)
theorem oNilI_ok (H : RelW ty φ E h w) {op : BinOp} {neg : Bool} (hop : (op = .eql ∧ neg = false) ∨ (op = .neq ∧ neg = true)) {t : Nat} {ti : TI} (T : TyOk P t ti) (hk : ti.k = .iface) {X : Operand} {x : O} {x' : Value}
    (hx : RelV φ (x e) x') (hr : oNilI neg x F e h = .ok v h') : Gives ty φ E h w v h' ((binRun op t X (.const .nilIface) x' .nilIface).run P w) := by
  obtain ⟨d, hd, hkd⟩ := T.und
  rw [hk] at hkd
  have main : ∀ (a : Value) (r : Bool), ((a = .nilIface ∧ r = true) ∨ ((∃ t v, a = .iface t v) ∧ r = false)) → (binRun op t X (.const .nilIface) a .nilIface).run P w = .ok (.bool (neg != r)) w := by
    intro a r ha
    cases hkd with
    | iface ms =>
    unfold binRun
    have hg : (eqGuard op t X (.const .nilIface) a .nilIface).run P w = .ok () w := by
      cases op <;> first | rfl | skip
      all_goals (rcases ha with ⟨rfl, _⟩ | ⟨⟨t, v, rfl⟩, _⟩ <;> simp [eqGuard])
    have he1 : ∀ n, (Op.equalIn (n + 1) t a .nilIface).run P w = .ok r w := fun n => by
      rcases ha with ⟨rfl, rfl⟩ | ⟨⟨t, v, rfl⟩, rfl⟩ <;> simp [Op.equalIn, run_underlying hd]
    have he : (Op.equal t a .nilIface).run P w = .ok r w := he1 9999
    have hb : binOp op t a .nilIface = (do pure (.bool (neg != (← Op.equal t a .nilIface)))) := by
      rcases hop with ⟨rfl, rfl⟩ | ⟨rfl, rfl⟩ <;> rcases ha with ⟨rfl, rfl⟩ | ⟨⟨t, v, rfl⟩, rfl⟩ <;> (simp [binOp]; try rfl)
    rw [Sem.run_bind, hg, Result.andThen_ok, hb, Sem.run_bind, he, Result.andThen_ok, Sem.run_pure]
  have hr : nilI neg (x e) h = .ok v h' := hr
  generalize x e = u at hx hr
  unfold nilI at hr
  split at hr
  · obtain ⟨rfl, rfl⟩ := okB_ok hr
    cases hx
    rw [main _ true (.inl ⟨rfl, rfl⟩)]; exact .same H (.bool _)
  · obtain ⟨rfl, rfl⟩ := okB_ok hr
    cases hx with
    | iface t h => rw [main _ false (.inr ⟨⟨_, _, rfl⟩, rfl⟩)]; exact .same H (.bool _)
  · cases hr
theorem oEqC_ok (hT : TabOk P ty) (H : RelW ty φ E h w) {K : KS} {op : BinOp} {neg : Bool} (hop : (op = .eql ∧ neg = false) ∨ (op = .neq ∧ neg = true)) {t : Nat} {ti : TI} (hti : ty.get t = some ti) (hk : ti.k.agg = true) (hf : flatK ty 8 t = some K.ks) (ha : K.agg = true)
    {X Y : Operand} {x y : O} {x' y' : Value} (hx : RelV φ (x e) x') (hy : RelV φ (y e) y') (hr : oEqC K neg x y F e h = .ok v h') : Gives ty φ E h w v h' ((binRun op t X Y x' y').run P w) := by
  have T := hT t ti hti
  have hK : KeyOf P ty t K := ⟨⟨ti, hti, by rw [ha, hk]⟩, hf⟩
  unfold oEqC eqC at hr
  split at hr
  case h_2 => cases hr
  rename_i r hq
  split at hq
  case h_2 => cases hq
  rename_i hfx
  obtain ⟨rfl, rfl⟩ := okB_ok hr
  have e1 := fitK_rel hfx hx
  obtain ⟨h1, hfy, e2⟩ := keyEq_ok hT hK hfx hy hq w
  rw [← e1] at hfx
  have hgt := (flat_key hT 8 t K.ks hf).2.1 P.depth T.deep
  obtain ⟨_, _, g1⟩ := fitK_cells hfx
  obtain ⟨_, _, g2⟩ := fitK_cells hfy
  rw [← e2] at g2
  rcases g1 with ⟨_, l, hl⟩ | ⟨hb, _⟩
  · rcases g2 with ⟨_, m, hm⟩ | ⟨hb, _⟩
    · rw [← e1] at h1
      have hg : (eqGuard op t X Y x' y').run P w = .ok () w := by rw [hl, hm]; exact guard_agg hgt
      rw [bin_eq hop (.inr ⟨_, hl⟩) hg h1]
      exact .same H (.bool _)
    · rw [ha] at hb; cases hb
  · rw [ha] at hb; cases hb
end
end Go.Proofs.Ytkafejncffinmaa

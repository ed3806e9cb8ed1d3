/-
  A region's operations: out of the machine's run, a list of operations that have been carried out.
-/
import Derived.Test.YtkafejncffinmaaTrace
set_option linter.unusedSimpArgs false
set_option linter.unusedVariables false
namespace Go.Proofs.Ytkafejncffinmaa
open Go

section
variable {P : Program} {ty : TTy} {F : CallF}

structure AhOk (ty : TTy) (o : Oper) (ah : Ahead) : Prop where
  quiet : ∀ m, ah = .quiet m → ¬ (kd ty o.op = .p ∨ ∃ x, kd ty o.op = .r x)
  wr : ∀ x xs, ah = .wr x xs → kd ty o.op = .w x
  chk : ∀ old x xs, ah = .chk old x xs → kd ty o.op = .r x
theorem AhOk.plain (ty : TTy) (o : Oper) : AhOk ty o .plain := ⟨(fun _ h => by cases h), (fun _ _ h => by cases h), (fun _ _ _ h => by cases h)⟩

theorem cApart_ok {b : Nat} {e : Env} : ∀ {rs : List (Env → Value)}, cApart b e rs = true → ∀ g ∈ rs, blkOf (g e) ≠ .ok b
  | [], _, g, hg => by cases hg
  | x :: l, h, g, hg => by
    unfold cApart at h
    cases hb : blkOf (x e) with
    | no =>
      rw [hb] at h
      rcases List.mem_cons.1 hg with rfl | hg
      · rw [hb]; exact fun h => by cases h
      · exact cApart_ok h g hg
    | ok a =>
      rw [hb] at h
      simp only at h
      cases hq : Nat.beq a b with
      | true => rw [hq] at h; cases h
      | false =>
        rw [hq] at h
        rcases List.mem_cons.1 hg with rfl | hg
        · rw [hb]; exact fun h => by cases h; exact beq_false hq rfl
        · exact cApart_ok h g hg
theorem cChk_ok {w : Env → Value} {rs : List (Env → Value)} {k : C} {e : Env} {h : Hp} {X : X} (hr : cChk w rs k F e h = X) (hn : X ≠ .no) : k F e h = X ∧ ∀ b, blkOf (w e) = .ok b → ∀ g ∈ rs, blkOf (g e) ≠ .ok b := by
  unfold cChk at hr
  cases hb : blkOf (w e) with
  | no => rw [hb] at hr; exact ⟨hr, fun b h => by cases h⟩
  | ok b =>
    rw [hb] at hr
    simp only at hr
    cases hc : cApart b e rs with
    | false => rw [hc] at hr; exact absurd hr.symm hn
    | true => rw [hc] at hr; exact ⟨hr, fun b' h => by cases h; exact cApart_ok hc⟩
theorem cOld_ok {x : O} {k : C} {e : Env} {h : Hp} {X : X} (hr : cOld x k F e h = X) (hn : X ≠ .no) : k F e h = X ∧ ∀ b, blkOf (x e) = .ok b → b < h.mark := by
  unfold cOld at hr
  cases hb : blkOf (x e) with
  | no => rw [hb] at hr; exact ⟨hr, fun b h => by cases h⟩
  | ok b =>
    rw [hb] at hr
    simp only at hr
    cases hc : Nat.blt b h.mark with
    | false => rw [hc] at hr; exact absurd hr.symm hn
    | true => rw [hc] at hr; exact ⟨hr, fun b' h => by cases h; exact nat_blt.1 hc⟩
theorem cOs_mem {f : Fr} : ∀ {l : List Operand} {ys : List O}, cOs f l = some ys → ∀ x ∈ l, ∃ y, cO f x = some y ∧ y ∈ ys
  | [], ys, h, x, hx => by cases hx
  | z :: l, ys, h, x, hx => by
    unfold cOs at h
    split at h
    · rename_i y hy
      split at h
      · rename_i r hr
        cases h
        rcases List.mem_cons.1 hx with rfl | hx
        · exact ⟨y, hy, List.mem_cons_self⟩
        · obtain ⟨y', h1, h2⟩ := cOs_mem hr x hx
          exact ⟨y', h1, List.mem_cons_of_mem _ h2⟩
      · cases h
    · cases h
theorem backF_ok {h g' h' : Hp} {v u : Value} (hr : backF h v g' = .ok u h') : u = v ∧ h'.bl = g'.bl ∧ h'.next = g'.next ∧ h'.low = min h.low g'.low ∧ h'.high = max h.high g'.high ∧ h'.mark = h.mark := by
  unfold backF at hr
  rw [forceN_is, forceN_is, minN_is, maxN_is] at hr
  cases hr
  exact ⟨rfl, rfl, rfl, rfl, rfl, rfl⟩
theorem Side.none {ah : Ahead} {ρ : Rho} {h : Hp} (h1 : ∀ x xs, ah ≠ .wr x xs) (h2 : ∀ old x xs, ah ≠ .chk old x xs) : Side ah ρ h where
  wrx := fun x xs e => absurd e (h1 x xs)
  chk := fun old x xs e => absurd e (h2 old x xs)
  old := fun x xs e => absurd e (h2 true x xs)
  known := fun x xs e => by
    rcases e with e | ⟨old, e⟩
    · exact absurd e (h1 x xs)
    · exact absurd e (h2 old x xs)

theorem ahead_ok (hT : TabOk P ty) (hF : CallOk P ty F) {A : List Nat} {σ : Sg} {e : Env} {h : Hp} {o : Oper} {ah : Ahead} (hA : AhOk ty o ah) {kc : OpF → C} {X : X} (hr : aheadC ⟨A, σ⟩ ah (opC ty ⟨A, σ⟩ o.op) kc F e h = X) (hn : X ≠ .no) :
    ∃ p, kc p F e h = X ∧ (∀ v h', p F e h = .ok v h' → ∃ T, Core P ty o ah (rhoOf A σ e) h h' v T) ∧ Side ah (rhoOf A σ e) h := by
  cases ah with
  | plain => exact ⟨_, hr, fun v h' hp => core_plain hT hF (.inl rfl) hp, .none (fun _ _ h => by cases h) (fun _ _ _ h => by cases h)⟩
  | quiet m =>
    refine ⟨_, hr, fun v h' hp => ?_, .none (fun _ _ h => by cases h) (fun _ _ _ h => by cases h)⟩
    have hk := hA.quiet m rfl
    unfold oQuiet at hp
    have hp : (match opC ty ⟨A, σ⟩ o.op F e (tight h) with | .ok v h' => bif qOk m h h'.low then backF h v h' else .no | .no => .no) = .ok v h' := hp
    cases hq : opC ty ⟨A, σ⟩ o.op F e (tight h) with
    | no => rw [hq] at hp; cases hp
    | ok u g' =>
      rw [hq] at hp
      obtain ⟨hc, hp⟩ := bif_ok hp
      obtain ⟨rfl, h1, h2, h3, h4, h5⟩ := backF_ok hp
      refine core_wrapped hT hF hq h1 h2 h3 h4 h5 (fun e => ?_) (fun e => ?_) (fun _ _ e => by cases e) hk
      · cases e; exact nat_ble.1 hc
      · cases e; exact nat_ble.1 hc
  | wr x xs =>
    have hk := hA.wr x xs rfl
    unfold aheadC at hr
    simp only at hr
    cases h1 : cO ⟨A, σ⟩ x with
    | none => simp only [h1] at hr; exact absurd hr.symm hn
    | some x' =>
      cases h2 : cOs ⟨A, σ⟩ xs with
      | none => simp only [h1, h2] at hr; exact absurd hr.symm hn
      | some xs' =>
        simp only [h1, h2] at hr
        obtain ⟨hr, hap⟩ := cChk_ok hr hn
        refine ⟨_, hr, fun v h' hp => ?_, ?_⟩
        · unfold oAtB at hp
          have hp : (match opC ty ⟨A, σ⟩ o.op F e (tight h) with | .ok v h' => bif atOk (blkOf (x' e)) h h'.low h'.high then backF h v h' else .no | .no => .no) = .ok v h' := hp
          cases hq : opC ty ⟨A, σ⟩ o.op F e (tight h) with
          | no => rw [hq] at hp; cases hp
          | ok u g' =>
            rw [hq] at hp
            obtain ⟨hc, hp⟩ := bif_ok hp
            obtain ⟨rfl, q1, q2, q3, q4, q5⟩ := backF_ok hp
            refine core_wrapped hT hF hq q1 q2 q3 q4 q5 (fun e => by cases e) (fun e => by cases e) (fun y ys he c c1 c2 c3 => ?_) (by rw [hk]; rintro (h | ⟨_, h⟩) <;> cases h)
            cases he
            refine ⟨x' e, cO_ev h1 e, ?_⟩
            unfold atOk at hc
            cases hb : blkOf (x' e) with
            | no => rw [hb] at hc; have hc := nat_ble.1 hc; omega
            | ok b =>
              rw [hb] at hc
              simp only at hc
              cases hb1 : Nat.ble b g'.low with
              | false => rw [hb1] at hc; cases hc
              | true =>
                rw [hb1] at hc
                have c4 := nat_ble.1 hb1
                have c5 := nat_ble.1 hc
                congr 1; omega
        · refine { wrx := fun y ys he z hz u u' b hu hu' hb => ?_, chk := fun _ _ _ h => (by cases h), old := fun _ _ h => (by cases h), known := fun y ys he => ?_ }
          · cases he
            obtain ⟨z', hz1, hz2⟩ := cOs_mem h2 z hz
            rw [cO_ev h1 e] at hu; cases hu
            rw [cO_ev hz1 e] at hu'; cases hu'
            exact hap b hb z' hz2
          · rcases he with he | ⟨_, he⟩
            · cases he
              exact ⟨⟨_, cO_ev h1 e⟩, fun z hz => by obtain ⟨z', hz1, _⟩ := cOs_mem h2 z hz; exact ⟨_, cO_ev hz1 e⟩⟩
            · cases he
  | chk old x xs =>
    unfold aheadC at hr
    simp only at hr
    cases h1 : cO ⟨A, σ⟩ x with
    | none => simp only [h1] at hr; exact absurd hr.symm hn
    | some x' =>
      cases h2 : cOs ⟨A, σ⟩ xs with
      | none => simp only [h1, h2] at hr; exact absurd hr.symm hn
      | some xs' =>
        simp only [h1, h2] at hr
        have hold : cChk x' xs' (kc (opC ty ⟨A, σ⟩ o.op)) F e h = X ∧ (old = true → ∀ b, blkOf (x' e) = .ok b → b < h.mark) := by
          cases old with
          | true => obtain ⟨q1, q2⟩ := cOld_ok hr hn; exact ⟨q1, fun _ => q2⟩
          | false => exact ⟨hr, fun h => by cases h⟩
        obtain ⟨hr, hap⟩ := cChk_ok hold.1 hn
        refine ⟨_, hr, fun v h' hp => core_plain hT hF (.inr ⟨_, _, _, rfl⟩) hp, ?_⟩
        refine { wrx := fun _ _ h => (by cases h), chk := fun _ y ys he z hz u u' b hu hu' hb => ?_, old := fun y ys he u b hu hb => ?_, known := fun y ys he => ?_ }
        · cases he
          obtain ⟨z', hz1, hz2⟩ := cOs_mem h2 z hz
          rw [cO_ev h1 e] at hu; cases hu
          rw [cO_ev hz1 e] at hu'; cases hu'
          exact hap b hb z' hz2
        · cases he
          rw [cO_ev h1 e] at hu; cases hu
          exact hold.2 rfl b hb
        · rcases he with he | ⟨_, he⟩
          · cases he
          · cases he
            exact ⟨⟨_, cO_ev h1 e⟩, fun z hz => by obtain ⟨z', hz1, _⟩ := cOs_mem h2 z hz; exact ⟨_, cO_ev hz1 e⟩⟩

/-- the machine's run of a list of operations -/
structure Tr (P : Program) (ty : TTy) (all : List Oper) (ahs : List Ahead) (l : List Oper) (ρ : Nat → Rho) (H : Nat → Hp) (V : Nat → Value) (run : Nat → Bool) (T : Nat → Nat → Prop) : Prop where
  sf : ∀ j o, l[j]? = some o → SF P ty all o (ahs.getD j .plain) (ρ j) (ρ (j + 1)) (H j) (H (j + 1)) (V j) (run j) (T j)

def consF {α : Type} (x : α) (f : Nat → α) : Nat → α
  | 0 => x
  | j + 1 => f j
theorem Tr.cons {all : List Oper} {ahs : List Ahead} {o : Oper} {l : List Oper} {ρ : Nat → Rho} {H : Nat → Hp} {V : Nat → Value} {run : Nat → Bool} {T : Nat → Nat → Prop} (t : Tr P ty all ahs.tail l ρ H V run T)
    {ρ0 : Rho} {h0 : Hp} {v0 : Value} {r0 : Bool} {T0 : Nat → Prop} (s : SF P ty all o (ahs.headD .plain) ρ0 (ρ 0) h0 (H 0) v0 r0 T0) : Tr P ty all ahs (o :: l) (consF ρ0 ρ) (consF h0 H) (consF v0 V) (consF r0 run) (consF T0 T) where
  sf := fun j o' hj => by
    cases j with
    | zero =>
      cases hj
      have : ahs.getD 0 .plain = ahs.headD .plain := by cases ahs <;> rfl
      rw [this]; exact s
    | succ j =>
      have : ahs.getD (j + 1) .plain = ahs.tail.getD j .plain := by cases ahs <;> rfl
      rw [this]; exact t.sf j o' hj
theorem slot_lay {A : List Nat} {σ : Sg} {e : Env} (hS : SgOk A σ) {d : Nat} (hd : memN d A = false) (hlt : d < 320) (v : Value) {o : Oper} (ho : o.dst = some d) (t : Nat) (u : Value)
    (h : rhoOf A (dropS d σ) (Env.set d v e) t = some u) : if o.dst = some t then u = v else rhoOf A σ e t = some u := by
  have := rho_lay hS hd hlt v h
  rw [ho]
  by_cases ht : t = d
  · rw [if_pos ht] at this; rw [if_pos (by rw [ht])]; exact this
  · rw [if_neg ht] at this; rw [if_neg (fun e => ht (Option.some.inj e).symm)]; exact this

theorem opsC_tr (hT : TabOk P ty) (hF : CallOk P ty F) {A : List Nat} {all : List Oper} {k : Sg → C} : ∀ (l : List Oper) (ahs : List Ahead) (σ : Sg) (e : Env) (h : Hp) (X : X), (∀ j o, l[j]? = some o → AhOk ty o (ahs.getD j .plain)) → SgOk A σ →
    opsC ty A all k ahs l σ F e h = X → X ≠ .no →
    ∃ (ρ : Nat → Rho) (H : Nat → Hp) (V : Nat → Value) (run : Nat → Bool) (T : Nat → Nat → Prop) (σ' : Sg) (e' : Env), Tr P ty all ahs l ρ H V run T ∧ ρ 0 = rhoOf A σ e ∧ H 0 = h ∧ ρ l.length = rhoOf A σ' e' ∧ SgOk A σ' ∧ k σ' F e' (H l.length) = X
  | [], ahs, σ, e, h, X, _, hS, hr, _ => by
    refine ⟨fun _ => rhoOf A σ e, fun _ => h, fun _ => noRes, fun _ => true, fun _ _ => False, σ, e, ⟨fun j o hj => by cases hj⟩, rfl, rfl, rfl, hS, ?_⟩
    unfold opsC at hr; exact hr
  | o :: l, ahs, σ, e, h, X, hA, hS, hr, hn => by
    have hA0 : AhOk ty o (ahs.headD .plain) := by
      have := hA 0 o rfl
      cases ahs <;> exact this
    have hA1 : ∀ j o', l[j]? = some o' → AhOk ty o' (ahs.tail.getD j .plain) := fun j o' hj => by
      have := hA (j + 1) o' hj
      cases ahs <;> exact this
    have fin : ∀ {σ1 : Sg} {e1 : Env} {h1 : Hp} {v : Value} {r : Bool} {T0 : Nat → Prop}, SgOk A σ1 → opsC ty A all k ahs.tail l σ1 F e1 h1 = X →
        SF P ty all o (ahs.headD .plain) (rhoOf A σ e) (rhoOf A σ1 e1) h h1 v r T0 →
        ∃ (ρ : Nat → Rho) (H : Nat → Hp) (V : Nat → Value) (run : Nat → Bool) (T : Nat → Nat → Prop) (σ' : Sg) (e' : Env), Tr P ty all ahs (o :: l) ρ H V run T ∧ ρ 0 = rhoOf A σ e ∧ H 0 = h ∧ ρ (o :: l).length = rhoOf A σ' e' ∧ SgOk A σ' ∧ k σ' F e' (H (o :: l).length) = X := by
      intro σ1 e1 h1 v r T0 hS1 hr1 sf
      obtain ⟨ρ, H, V, run, T, σ', e', t, q1, q2, q3, q4, q5⟩ := opsC_tr hT hF l ahs.tail σ1 e1 h1 X hA1 hS1 hr1 hn
      exact ⟨_, _, _, _, _, σ', e', t.cons (by rw [q1, q2]; exact sf), rfl, rfl, q3, q4, q5⟩
    unfold opsC at hr
    cases hg : o.guard with
    | none =>
      cases hd : o.dst with
      | none =>
        simp only [hg, hd] at hr
        obtain ⟨p, hp, hcore, hside⟩ := ahead_ok hT hF hA0 hr hn
        unfold cDo at hp
        cases hq : p F e h with
        | no => rw [hq] at hp; exact absurd hp.symm hn
        | ok v h1 =>
          rw [hq] at hp
          obtain ⟨T0, core⟩ := hcore v h1 hq
          exact fin hS hp { slot := fun t u ht => (by rw [hd, if_neg (by intro h; cases h)]; exact ht), grd := (by rw [hg]), side := fun _ => hside, core := .inl ⟨rfl, core⟩ }
      | some d =>
        simp only [hg, hd] at hr
        cases hm : memN d A with
        | true =>
          simp only [hm] at hr
          cases hop : o.op with
          | move x =>
            simp only [hop] at hr
            cases hs : srcO A σ x with
            | none => simp only [hs] at hr; exact absurd hr.symm hn
            | some s =>
              simp only [hs] at hr
              have hlt : ∀ n, s = .s n → n < 320 := by
                intro n hn
                subst hn
                cases x with
                | tmp t =>
                  have hs : (match findS t σ with | some s => some s | none => match memN t A with | true => none | false => match Nat.blt t 320 with | true => some (Src.s t) | false => none) = some (.s n) := hs
                  cases hf : findS t σ with
                  | some s' =>
                    rw [hf] at hs; cases hs
                    exact hS.lt _ (findS_mem hf) n rfl
                  | none =>
                    rw [hf] at hs
                    simp only at hs
                    cases hm2 : memN t A with
                    | true => rw [hm2] at hs; cases hs
                    | false =>
                      rw [hm2] at hs
                      simp only at hs
                      cases hb : Nat.blt t 320 with
                      | false => rw [hb] at hs; cases hs
                      | true => rw [hb] at hs; cases hs; exact nat_blt.1 hb
                | const v =>
                  have hs : (match plainC v with | true => some (Src.c v) | false => none) = some (.s n) := hs
                  cases hp : plainC v <;> rw [hp] at hs <;> cases hs
                | func g => cases hs
                | global g => cases hs
              have hkp : kd ty o.op = .p := by rw [hop]; rfl
              refine fin (hS.alias hm hlt) hr (v := srcG s e) (r := true) (T0 := fun _ => False) { slot := fun t u ht => ?_, grd := (by rw [hg]), side := fun h => absurd hkp h, core := .inl ⟨rfl, ?_⟩ }
              · have := rho_alias hS hm s ht
                rw [hd]
                by_cases htd : t = d
                · rw [if_pos htd] at this; rw [if_pos (by rw [htd])]; exact this
                · rw [if_neg htd] at this; rw [if_neg (fun e => htd (Option.some.inj e).symm)]; exact this
              · refine { does := fun φ E w a H hn ht next Q hnx => ?_, tame := fun _ => ⟨Nat.le_refl _, Nat.le_refl _, fun _ h => h.elim, rfl⟩, tlt := fun _ h => h.elim, tp := fun _ => ⟨fun _ h => h, rfl⟩, strong := fun _ _ h => h, weak := fun _ _ h => h.elim, wr := fun _ _ _ _ h => h.elim }
                have hv := hn x (by rw [hop]; simp [Op.operands]) _ (src_ev hs e)
                have hx : execOp a.eval o = (do pure (.value (← (pure (a.eval x) : Sem Value)))) := by unfold execOp; rw [hop]; rfl
                unfold Oper.wp
                rw [hx, Sem.run_bind, Sem.run_pure, Result.andThen_ok, Sem.run_pure, Oper.upon_value]
                exact hnx φ _ w hv H (.refl _ _ _) (.refl _ _ _)
          | _ => simp only [hop] at hr; exact absurd hr.symm hn
        | false =>
          simp only [hm] at hr
          cases hb : Nat.blt d 320 with
          | false => simp only [hb] at hr; exact absurd hr.symm hn
          | true =>
            simp only [hb] at hr
            have hlt := nat_blt.1 hb
            obtain ⟨p, hp, hcore, hside⟩ := ahead_ok hT hF hA0 hr hn
            unfold cOp at hp
            cases hq : p F e h with
            | no => rw [hq] at hp; exact absurd hp.symm hn
            | ok v h1 =>
              rw [hq] at hp
              simp only at hp
              rw [slotT_is d hlt] at hp
              obtain ⟨T0, core⟩ := hcore v h1 hq
              exact fin (hS.sub dropS_sub.1) hp { slot := slot_lay hS hm hlt v hd, grd := (by rw [hg]), side := fun _ => hside, core := .inl ⟨rfl, core⟩ }
    | some gw =>
      obtain ⟨g, want⟩ := gw
      cases hd : o.dst with
      | none => simp only [hg, hd] at hr; exact absurd hr.symm hn
      | some d =>
        simp only [hg, hd] at hr
        cases hm : memN d A with
        | true => simp only [hm] at hr; exact absurd hr.symm hn
        | false =>
          simp only [hm] at hr
          rw [nth_is] at hr
          cases hog : all[g]? with
          | none => rw [hog] at hr; exact absurd hr.symm hn
          | some og =>
            rw [hog] at hr
            simp only at hr
            cases hgd : og.dst with
            | none => simp only [hgd] at hr; exact absurd hr.symm hn
            | some dg =>
              simp only [hgd] at hr
              cases hcg : cO ⟨A, σ⟩ (.tmp dg) with
              | none => simp only [hcg] at hr; exact absurd hr.symm hn
              | some gg =>
                simp only [hcg] at hr
                cases hb : Nat.blt d 320 with
                | false => simp only [hb] at hr; exact absurd hr.symm hn
                | true =>
                  simp only [hb] at hr
                  have hlt := nat_blt.1 hb
                  obtain ⟨p, hp, hcore, hside⟩ := ahead_ok hT hF hA0 hr hn
                  have hρ : rhoOf A σ e dg = some (gg e) := cO_ev hcg e
                  unfold cG at hp
                  have not_run : slotT d (fun e => opsC ty A all k ahs.tail l (dropS d σ) F e h) noRes e = X → (∀ r : Bool, r = false → (match o.guard with
                        | none => r = true
                        | some (g, want) => ∃ og d c, all[g]? = some og ∧ og.dst = some d ∧ rhoOf A σ e d = some c ∧ ((∃ b, c = .bool b ∧ r = (want == b)) ∨ (∃ l, c = .tuple l ∧ r = false)))) →
                      ∃ (ρ : Nat → Rho) (H : Nat → Hp) (V : Nat → Value) (run : Nat → Bool) (T : Nat → Nat → Prop) (σ' : Sg) (e' : Env), Tr P ty all ahs (o :: l) ρ H V run T ∧ ρ 0 = rhoOf A σ e ∧ H 0 = h ∧ ρ (o :: l).length = rhoOf A σ' e' ∧ SgOk A σ' ∧ k σ' F e' (H (o :: l).length) = X := by
                    intro hp hgrd
                    rw [slotT_is d hlt] at hp
                    exact fin (hS.sub dropS_sub.1) hp (v := noRes) (r := false) (T0 := fun _ => False) { slot := slot_lay hS hm hlt noRes hd, grd := hgrd false rfl, side := fun _ => hside, core := .inr ⟨rfl, rfl, rfl, fun _ h => h⟩ }
                  split at hp
                  · rename_i b hgb
                    cases hwb : want == b with
                    | true =>
                      rw [hwb] at hp
                      simp only [cond_true] at hp
                      unfold cOp at hp
                      cases hq : p F e h with
                      | no => rw [hq] at hp; exact absurd hp.symm hn
                      | ok v h1 =>
                        rw [hq] at hp
                        simp only at hp
                        rw [slotT_is d hlt] at hp
                        obtain ⟨T0, core⟩ := hcore v h1 hq
                        exact fin (hS.sub dropS_sub.1) hp (r := true) { slot := slot_lay hS hm hlt v hd, grd := (by rw [hg]; exact ⟨og, dg, _, hog, hgd, hρ, .inl ⟨b, hgb, hwb.symm⟩⟩), side := fun _ => hside, core := .inl ⟨rfl, core⟩ }
                    | false =>
                      rw [hwb] at hp
                      exact not_run hp fun r hr => by rw [hg]; exact ⟨og, dg, _, hog, hgd, hρ, .inl ⟨b, hgb, by rw [hr, hwb]⟩⟩
                  · rename_i ls hgb
                    exact not_run hp fun r hr => by rw [hg]; exact ⟨og, dg, _, hog, hgd, hρ, .inr ⟨ls, hgb, hr⟩⟩
                  · exact absurd hp.symm hn
end
end Go.Proofs.Ytkafejncffinmaa

/-
  Functions: what the machine's call says is what the model's call does.
-/
import Derived.Test.YtkafejncffinmaaCode
set_option linter.unusedSimpArgs false
set_option linter.unusedVariables false
namespace Go.Proofs.Ytkafejncffinmaa
open Go

section
variable {P : Program} {ty : TTy} {A : List Nat} {N : Nat} {φ : Phi} {h h' : Hp} {w : World} {e : Env} {a : Act} {v : Value}

theorem okSlot_ev {t : Nat} (h : okSlot A t = true) (e : Env) : rhoOf A [] e t = some (slotG t e) := by
  unfold okSlot at h
  rw [rhoOf_is]
  show (match memN t A with | true => none | false => match Nat.blt t 320 with | true => some (slotG t e) | false => none) = _
  cases hm : memN t A with
  | true => rw [hm] at h; cases h
  | false =>
    rw [hm] at h
    have h : Nat.blt t 320 = true := h
    simp only [h]
def resF (tmps : Array Value) : ResultVar → Sem Value
  | .tmp t => pure (tmps.getD t undef)
  | .cell a t => do loadVar t (← asAddr (tmps.getD a undef))
theorem results_is (fn : Func) (tmps : Array Value) : Go.results fn tmps = (do let vs ← fn.results.mapM (resF tmps); pure (if h : vs.size = 1 then vs[0] else .tuple vs)) := by
  unfold Go.results
  congr 2
theorem arr_mapM (f : ResultVar → Sem Value) (l : Array ResultVar) {vs : List Value} (h : (l.toList.mapM f).run P w = .ok vs w) : (l.mapM f).run P w = .ok ⟨vs⟩ w := by
  have : l.mapM f = List.toArray <$> l.toList.mapM f := by
    conv => lhs; rw [← Array.toArray_toList (xs := l)]
    rw [List.mapM_toArray]
  rw [this, map_eq_pure_bind, Sem.run_bind, h, Result.andThen_ok, Sem.run_pure]

theorem results_ok (hT : TabOk P ty) (H : RelW ty φ nil h w) (HA : AR N φ (rhoOf A [] e) a) : ∀ {l : List ResultVar} {rs : List RV} {k : List Value → R}, rsC ty A l = some rs → Go.Proofs.Ytkafejncffinmaa.results e h k rs = .ok v h' →
    ∃ vs vs', RelL φ vs vs' ∧ k vs = .ok v h' ∧ (l.mapM (resF a.tmps)).run P w = .ok vs' w
  | [], rs, k, hc, hr => by
    cases hc
    exact ⟨[], [], .nil, hr, by simp⟩
  | .tmp t :: l, rs, k, hc, hr => by
    unfold rsC at hc
    split at hc
    · cases hc
    rename_i ht
    split at hc
    case h_2 => cases hc
    rename_i r hrs
    cases hc
    unfold Go.Proofs.Ytkafejncffinmaa.results at hr
    have hr : forceV (slotG t e) (fun v => Go.Proofs.Ytkafejncffinmaa.results e h (fun vs => k (v :: vs)) r) = .ok v h' := hr
    rw [forceV_is] at hr
    obtain ⟨vs, vs', h1, h2, h3⟩ := results_ok hT H HA hrs hr
    have h4 := HA.rel t _ (okSlot_ev ht e)
    exact ⟨_, _, .cons h4 h1, h2, by simp [List.mapM_cons, resF, h3]⟩
  | .cell c t :: l, rs, k, hc, hr => by
    unfold rsC at hc
    split at hc
    · cases hc
    rename_i ht
    split at hc
    case h_2 => cases hc
    rename_i ti hti
    split at hc
    case h_2 => cases hc
    rename_i r hrs
    have T := hT t ti hti
    have h4 := HA.rel c _ (okSlot_ev ht e)
    cases hag : ti.k.agg with
    | true =>
      rw [hag] at hc
      cases hc
      unfold Go.Proofs.Ytkafejncffinmaa.results result1 at hr
      simp only at hr
      cases hadr : adrV (slotG c e) with
      | no => rw [hadr] at hr; cases hr
      | ok ad =>
        rw [hadr] at hr
        simp only at hr
        cases hl : loadN ti.size ad h with
        | no => rw [hl] at hr; cases hr
        | ok u h2 =>
          rw [hl] at hr
          simp only [forceV_is] at hr
          rw [adrV_ok hadr] at h4
          obtain ⟨a', ha', hra⟩ := h4.ptr_inv
          obtain ⟨_, l', hv, hrun⟩ := loadN_ok (P := P) H hl hra (fun h => h)
          obtain ⟨vs, vs', h1, h5, h3⟩ := results_ok hT H HA hrs hr
          refine ⟨_, _, .cons hv h1, h5, ?_⟩
          have : (resF a.tmps (.cell c t)).run P w = .ok (.agg l'.toArray) w := by
            unfold resF
            simp only [ha', asAddr, Sem.run_bind, Sem.run_pure, Result.andThen_ok, loadVar, T.agg, hag, if_true, T.size, hrun]
          simp [List.mapM_cons, this, h3]
    | false =>
      rw [hag] at hc
      cases hc
      unfold Go.Proofs.Ytkafejncffinmaa.results result1 at hr
      simp only at hr
      cases hadr : adrV (slotG c e) with
      | no => rw [hadr] at hr; cases hr
      | ok ad =>
        rw [hadr] at hr
        simp only at hr
        cases hl : load1 ad h with
        | no => rw [hl] at hr; cases hr
        | ok u h2 =>
          rw [hl] at hr
          simp only [forceV_is] at hr
          rw [adrV_ok hadr] at h4
          obtain ⟨a', ha', hra⟩ := h4.ptr_inv
          obtain ⟨_, v', hcell, hv⟩ := load1_ok H hl hra (fun h => h)
          obtain ⟨vs, vs', h1, h5, h3⟩ := results_ok hT H HA hrs hr
          refine ⟨_, _, .cons hv h1, h5, ?_⟩
          have : (resF a.tmps (.cell c t)).run P w = .ok v' w := by
            unfold resF
            simp only [ha', asAddr, Sem.run_bind, Sem.run_pure, Result.andThen_ok, loadVar, T.agg, hag, Bool.false_eq_true, if_false, run_load, hcell]
          simp [List.mapM_cons, this, h3]

theorem finish_ok (hT : TabOk P ty) (H : RelW ty φ nil h w) (HA : AR N φ (rhoOf A [] e) a) {fn : Func} {rs : List RV} (hc : rsC ty A fn.results.toList = some rs) (hr : finish rs e h = .ok v h') :
    h' = h ∧ ∃ v', RelV φ v v' ∧ (Go.results fn a.tmps).run P w = .ok v' w := by
  unfold finish at hr
  obtain ⟨vs, vs', h1, h2, h3⟩ := results_ok hT H HA hc hr
  have hrun := arr_mapM (P := P) (w := w) (resF a.tmps) fn.results h3
  rw [results_is]
  simp only [Sem.run_bind, hrun, Result.andThen_ok, Sem.run_pure]
  unfold finish2 at h2
  split at h2
  · cases h2
    cases h1 with
    | cons hv ht => cases ht; exact ⟨rfl, _, hv, rfl⟩
  · rename_i hne
    cases h2
    refine ⟨rfl, _, .tuple h1, ?_⟩
    have : vs'.length ≠ 1 := by
      rw [h1.length]
      intro hl
      cases vs with
      | nil => cases hl
      | cons x l =>
        cases l with
        | nil => exact hne x rfl
        | cons _ _ => simp at hl
    have hs : ¬ (Array.mk vs').size = 1 := this
    rw [dif_neg hs]

theorem set_args : ∀ (args : List Value) (e : Env) (i t : Nat), i + args.length ≤ 320 → t < 320 → (setArgs e i args).get t = if i ≤ t ∧ t < i + args.length then args.getD (t - i) noRes else e.get t
  | [], e, i, t, _, _ => by
    rw [if_neg (by simp)]; rfl
  | v :: l, e, i, t, hn, ht => by
    simp only [List.length_cons] at hn
    unfold setArgs
    rw [set_args l _ (i + 1) t (by omega) ht]
    by_cases h1 : i + 1 ≤ t ∧ t < i + 1 + l.length
    · rw [if_pos h1, if_pos (by simp only [List.length_cons]; omega)]
      have : t - i = (t - (i + 1)) + 1 := by omega
      rw [this, List.getD_cons_succ]
    · rw [if_neg h1, Env.get_set _ _ _ _ (by omega) ht]
      by_cases h2 : t = i
      · subst h2
        rw [if_pos rfl, if_pos (by simp only [List.length_cons]; omega)]
        simp
      · rw [if_neg h2, if_neg (by simp only [List.length_cons]; omega)]
set_option maxRecDepth 100000 in
theorem e0_get {t : Nat} (ht : t < 320) : e0.get t = noRes := by
  have H : AllB (fun i => e0.get i = noRes) 320 := by
    repeat' (first | exact trivial | refine ⟨rfl, ?_⟩)
  exact H.at t ht
theorem args_ar {args args' : List Value} (hr : RelL φ args args') (hn : args.length ≤ 320) (n : Nat) :
    AR (max args.length n) φ (rhoOf A [] (setArgs e0 0 args)) { tmps := (⟨args'⟩ : Array Value) ++ Array.replicate (n - (⟨args'⟩ : Array Value).size) undef, defers := [] } where
  size := by
    have := hr.length
    simp only [Array.size_append, Array.size_replicate, List.size_toArray]
    omega
  defs := rfl
  rel := fun t u hu => by
    rw [rhoOf_is] at hu
    have hu : (match memN t A with | true => none | false => match Nat.blt t 320 with | true => some (slotG t (setArgs e0 0 args)) | false => none) = some u := hu
    cases hm : memN t A with
    | true => rw [hm] at hu; cases hu
    | false =>
      rw [hm] at hu
      simp only at hu
      cases hb : Nat.blt t 320 with
      | false => rw [hb] at hu; cases hu
      | true =>
        rw [hb] at hu
        cases hu
        have ht := nat_blt.1 hb
        rw [slotG_is t ht, set_args args e0 0 t (by omega) ht, e0_get ht]
        have hlen := hr.length
        simp only [Array.getD_eq_getD_getElem?]
        by_cases h1 : t < args.length
        · rw [if_pos (by omega), Nat.sub_zero, Array.getElem?_append_left (by simp only [List.size_toArray]; omega)]
          obtain ⟨v', h2, h3⟩ := hr.get t args[t] (List.getElem?_eq_getElem h1)
          have : args.getD t noRes = args[t] := by rw [List.getD_eq_getElem?_getD, List.getElem?_eq_getElem h1]; rfl
          rw [this]
          have e2 : (⟨args'⟩ : Array Value)[t]? = some v' := by simpa using h2
          rw [e2]; exact h3
        · rw [if_neg (by omega), Array.getElem?_append_right (by simp only [List.size_toArray]; omega), Array.getElem?_replicate]
          split <;> exact .tuple .nil

theorem rsC_plain {l : List ResultVar} {rs : List RV} (hc : rsC ty A l = some rs) : wholeF rs = none := by
  cases l with
  | nil => cases hc; rfl
  | cons x l =>
    cases x with
    | tmp t =>
      unfold rsC at hc
      split at hc
      · cases hc
      · split at hc
        · cases hc; rfl
        · cases hc
    | cell c t =>
      unfold rsC at hc
      split at hc
      · cases hc
      · split at hc
        · split at hc
          · split at hc
            · cases hc; rfl
            · cases hc; rfl
          · cases hc
        · cases hc

/-- what a function of the table is -/
def FnOk (P : Program) (ty : TTy) (g : Nat) (b : Body) : Prop := ∃ fn A, P.funcs[g]? = some fn ∧ fn.name ≠ "runtime.NumGoroutine" ∧ bodyC ty A fn = some b
noncomputable def bNone : Body := ⟨[], cNo⟩
theorem dstOk_mono {n m : Nat} (h : n ≤ m) : ∀ {c : Code}, dstOk n c = true → dstOk m c = true
  | .region _ ops _, hd => by
    unfold dstOk at hd ⊢
    rw [List.all_eq_true] at hd ⊢
    intro o ho
    have := hd o ho
    split at this
    · have := nat_blt.1 this
      exact nat_blt.2 (by omega)
    · rfl
  | .seq a b, hd => by
    have hd : (dstOk n a && dstOk n b) = true := hd
    rw [Bool.and_eq_true] at hd
    show (dstOk m a && dstOk m b) = true
    rw [dstOk_mono h hd.1, dstOk_mono h hd.2]; rfl
  | .cond _ a b, hd => by
    have hd : (dstOk n a && dstOk n b) = true := hd
    rw [Bool.and_eq_true] at hd
    show (dstOk m a && dstOk m b) = true
    rw [dstOk_mono h hd.1, dstOk_mono h hd.2]; rfl
  | .block _ a, hd => dstOk_mono (c := a) h hd
  | .loop a, hd => dstOk_mono (c := a) h hd
  | .skip, _ => rfl
  | .exit _, _ => rfl
  | .ret, _ => rfl
  | .rangeFunc _ _ _ _, _ => rfl
  | .scope a, hd => dstOk_mono (c := a) h hd
  | .label _, _ => rfl
  | .goto _, _ => rfl
  | .refuse _, _ => rfl

theorem enter_ok (hT : TabOk P ty) {F : CallF} (hF : CallOk P ty F) (hm : P.follows .mixedOrders = true) {g : Nat} {b : Body} (hb : FnOk P ty g b) {args : List Value} (hr : enter F b args h = .ok v h') :
    (∃ fn, P.funcs[g]? = some fn ∧ fn.name ≠ "runtime.NumGoroutine" ∧ fn.body.isNone = false) ∧
    ∀ φ w args', RelL φ args args' → RelW ty φ nil h w →
      Calls P g ⟨args'⟩ w fun en w' => ∃ v' ψ, en = .returned v' ∧ RelV ψ v v' ∧ RelW ty ψ nil h' w' ∧ Evo φ h w ψ h' w' := by
  obtain ⟨fn, A, hfn, hname, hbody⟩ := hb
  unfold bodyC at hbody
  cases hc : fn.body with
  | none => rw [hc] at hbody; cases hbody
  | some c =>
    rw [hc] at hbody
    simp only at hbody
    cases hrs : rsC ty A fn.results.toList with
    | none => rw [hrs] at hbody; cases hbody
    | some rs =>
      rw [hrs] at hbody
      simp only at hbody
      cases hd : dstOk fn.ntmps c with
      | false => rw [hd] at hbody; cases hbody
      | true =>
        rw [hd] at hbody
        cases hbody
        refine ⟨⟨fn, hfn, hname, by rw [hc]; rfl⟩, fun φ w args' hrel HW => ?_⟩
        unfold enter at hr
        dsimp only at hr
        rw [rsC_plain hrs] at hr
        obtain ⟨hlen, hr⟩ := bif_ok hr
        have hlen : args.length ≤ 320 := by rw [← lenL_is]; exact nat_ble.1 hlen
        have hAR := args_ar (A := A) hrel hlen fn.ntmps
        refine calls_of_wp hfn hc ?_
        have hn : codeC ty A c [] none F (setArgs e0 0 args) h ≠ .no := by
          intro hx; rw [hx] at hr; cases hr
        refine codeC_ok hT hF hm c (e := setArgs e0 0 args) (h := h) rfl hn (dstOk_mono (Nat.le_max_right _ _) hd) _ _ _ (.nil A) HW hAR _ { go := fun _ h => (by cases h), norm := fun _ e1 h1 ψ a1 w1 g1 hx => ?_, exit := fun id e1 h1 ψ a1 w1 g1 hx => ?_, ret := fun e1 h1 ψ a1 w1 g1 hx => ?_ }
        · rw [hx] at hr
          obtain ⟨rfl, v', hv, hrun⟩ := finish_ok hT g1.rel g1.ar hrs hr
          exact ⟨g1.ar.defs, v', hrun, v', ψ, rfl, hv, g1.rel, g1.evo⟩
        · rw [hx] at hr; cases hr
        · rw [hx] at hr
          obtain ⟨rfl, v', hv, hrun⟩ := finish_ok hT g1.rel g1.ar hrs hr
          exact ⟨g1.ar.defs, v', hrun, v', ψ, rfl, hv, g1.rel, g1.evo⟩

/-- what a body gives is what the function does, whatever its calls do -/
def FnDoes (P : Program) (ty : TTy) (g : Nat) (b : Body) : Prop := ∀ (F : CallF) (args : List Value) (h : Hp) (v : Value) (h' : Hp), CallOk P ty F → enter F b args h = .ok v h' →
    (∃ fn, P.funcs[g]? = some fn ∧ fn.name ≠ "runtime.NumGoroutine" ∧ fn.body.isNone = false) ∧
    ∀ φ w args', RelL φ args args' → RelW ty φ nil h w →
      Calls P g ⟨args'⟩ w fun en w' => ∃ v' ψ, en = .returned v' ∧ RelV ψ v v' ∧ RelW ty ψ nil h' w' ∧ Evo φ h w ψ h' w'
def FnOr (P : Program) (ty : TTy) (g : Nat) (b : Body) : Prop := FnOk P ty g b ∨ b = bNone ∨ FnDoes P ty g b

/-- of all functions of a table -/
def FT.All (p : Nat → Body → Prop) : FT → (Nat → Nat) → Prop
  | .mt, _ => True
  | .nd b l r, ix => p (ix 0) b ∧ FT.All p l (fun k => ix (2 * k + 1)) ∧ FT.All p r (fun k => ix (2 * k + 2))
theorem FT.All.get {p : Nat → Body → Prop} : ∀ {t : FT} {ix : Nat → Nat}, FT.All p t ix → ∀ {i : Nat} {b : Body}, t.get i = some b → p (ix i) b
  | .mt, ix, _, i, b, h => by cases h
  | .nd c l r, ix, ⟨h0, hl, hr⟩, 0, b, h => by cases h; exact h0
  | .nd c l r, ix, ⟨h0, hl, hr⟩, k + 1, b, h => by
    unfold FT.get at h
    have e1 : Nat.mod k 2 = k % 2 := rfl
    have e2 : Nat.div k 2 = k / 2 := rfl
    rw [e1, e2] at h
    rcases Nat.mod_two_eq_zero_or_one k with hk | hk
    · rw [hk] at h
      have := hl.get (i := k / 2) h
      have e : 2 * (k / 2) + 1 = k + 1 := by omega
      simp only [e] at this; exact this
    · rw [hk] at h
      have := hr.get (i := k / 2) h
      have e : 2 * (k / 2) + 2 = k + 1 := by omega
      simp only [e] at this; exact this

theorem call_all (hT : TabOk P ty) (hm : P.follows .mixedOrders = true) {bs : FT} (hb : FT.All (FnOr P ty) bs id) : ∀ n, CallOk P ty (call bs n)
  | 0 => fun g args h v h' hr => by cases hr
  | n + 1 => fun g args h v h' hr => by
    have hr : (match bs.get g with | some b => enter (call bs n) b args h | none => .no) = .ok v h' := hr
    cases hg : bs.get g with
    | none => rw [hg] at hr; cases hr
    | some b =>
      rw [hg] at hr
      rcases hb.get hg with hok | rfl | hdo
      · exact enter_ok hT (call_all hT hm hb n) hm hok hr
      · exfalso
        have hr : (bif Nat.ble (lenL args) 320 then leave [] .no else .no) = .ok v h' := hr
        obtain ⟨_, hr⟩ := bif_ok hr
        cases hr
      · exact hdo _ args h v h' (call_all hT hm hb n) hr
end
end Go.Proofs.Ytkafejncffinmaa

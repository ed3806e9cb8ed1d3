/-
  Calls; lengths; what is cleared.
-/
import Derived.Test.YtkafejncffinmaaStep
set_option linter.unusedSimpArgs false
set_option linter.unusedVariables false
namespace Go.Proofs.Ytkafejncffinmaa
open Go

section
variable {P : Program} {ty : TTy} {φ : Phi} {E : Nat → Prop} {h h' : Hp} {w : World} {F : CallF} {e : Env} {v : Value} {f : Fr}

theorem RelW.less (H : RelW ty φ E h w) (hE : ∀ b, ¬ E b) {E' : Nat → Prop} : RelW ty φ E' h w where
  dom := H.dom
  inj := fun i j p q ei ej _ _ => H.inj i j p q ei ej (hE i) (hE j)
  row := fun i p hp _ => H.row i p hp (hE i)
  fresh := H.fresh
  kind := H.kind
  inp := H.inp

theorem call_ok (hF : CallOk P ty F) (H : RelW ty φ E h w) (hE : ∀ b, ¬ E b) {g : Nat} {args args' : List Value} (ha : RelL φ args args') (hr : F g args h = .ok v h') {o : Oper} {a : Act}
    (hx : (execOp a.eval o).run P w = (callFunc g ⟨args'⟩).run P w) : OpDoes P ty φ E h v h' o a w := by
  intro next Q hn
  obtain ⟨⟨fn, hfn, hnm, hb⟩, hc⟩ := hF g args h v h' hr
  have hcall : (callFunc g ⟨args'⟩).run P w = .ok (.enter g ⟨args'⟩) w := by
    have hnm' : (fn.name == "runtime.NumGoroutine") = false := by simpa using hnm
    simp only [callFunc, Sem.run_bind, run_program, Result.andThen_ok, hfn, hnm', Bool.false_eq_true, if_false, hb, Sem.run_pure, Sem.run_ite]
  unfold Oper.wp
  rw [hx, hcall, Oper.upon_enter]
  refine (hc φ w args' ha (H.less hE)).mono fun en w' ⟨v', ψ, he, hv, H', ev⟩ => ?_
  subst he
  exact hn ψ v' w' hv (H'.less (fun _ h => h)) ev

theorem oCall_ok (hF : CallOk P ty F) (H : RelW ty φ E h w) (hE : ∀ b, ¬ E b) {g : Nat} {c : Call} (hc : c.callee = .value (.func g)) {o : Oper} {a : Act} (ho : o.op = .call c) {args : List O}
    (ha : RelL φ (vals e args) (c.args.toList.map a.eval)) (hr : oCall g args F e h = .ok v h') : OpDoes P ty φ E h v h' o a w := by
  unfold oCall at hr
  rw [forceL_is] at hr
  refine call_ok hF H hE ha hr ?_
  have e1 : c.args.map a.eval = ⟨c.args.toList.map a.eval⟩ := by apply Array.ext'; simp
  unfold execOp
  rw [ho]
  simp only [resolve, hc, e1, Act.eval, Deferred.ofValue, Sem.run_bind, Sem.run_pure, Result.andThen_ok, invoke]
  congr 2
  apply Array.ext'; simp
theorem oApply_ok (hF : CallOk P ty F) (H : RelW ty φ E h w) (hE : ∀ b, ¬ E b) {x : Operand} {g : O} {c : Call} (hc : c.callee = .value x) {o : Oper} {a : Act} (ho : o.op = .call c) {args : List O}
    (hg : RelV φ (g e) (a.eval x)) (ha : RelL φ (vals e args) (c.args.toList.map a.eval)) (hr : oApply g args F e h = .ok v h') : OpDoes P ty φ E h v h' o a w := by
  unfold oApply at hr
  split at hr
  case h_2 => cases hr
  rename_i k first cap hge
  rw [hge] at hg
  rw [forceL_is] at hr
  generalize hxe : a.eval x = xv at hg
  cases hg with
  | func _ h1 h2 =>
    refine call_ok hF H hE (h1.append (ha.append h2)) hr ?_
    have e1 : c.args.map a.eval = ⟨c.args.toList.map a.eval⟩ := by apply Array.ext'; simp
    unfold execOp
    rw [ho]
    simp only [resolve, hc, e1, hxe, Deferred.ofValue, Sem.run_bind, Sem.run_pure, Result.andThen_ok, invoke]
    congr 2
    apply Array.ext'; simp

theorem meths_ok {name : String} : ∀ {t : TTy} {ix : Nat → Nat} {u f : Nat}, (u, f) ∈ t.meths name ix → ∃ k ti, u = ix k ∧ t.get k = some ti ∧ findM name ti.ms = some f
  | .mt, ix, u, f, h => by cases h
  | .nd t l r, ix, u, f, h => by
    have sub : (u, f) ∈ l.meths name (fun k => ix (Nat.succ (Nat.mul 2 k))) ++ r.meths name (fun k => ix (Nat.succ (Nat.succ (Nat.mul 2 k)))) → ∃ k ti, u = ix k ∧ (TTy.nd t l r).get k = some ti ∧ findM name ti.ms = some f := fun h => by
      rcases List.mem_append.1 h with h | h
      · obtain ⟨k, ti, h1, h2, h3⟩ := meths_ok h
        refine ⟨Nat.succ (Nat.mul 2 k), ti, h1, ?_, h3⟩
        show (match Nat.mod (Nat.mul 2 k) 2 with | 0 => l.get (Nat.div (Nat.mul 2 k) 2) | Nat.succ _ => r.get (Nat.div (Nat.mul 2 k) 2)) = _
        have e1 : Nat.mod (Nat.mul 2 k) 2 = 0 := by show (2 * k) % 2 = 0; omega
        have e2 : Nat.div (Nat.mul 2 k) 2 = k := by show (2 * k) / 2 = k; omega
        rw [e1, e2]; exact h2
      · obtain ⟨k, ti, h1, h2, h3⟩ := meths_ok h
        refine ⟨Nat.succ (Nat.succ (Nat.mul 2 k)), ti, h1, ?_, h3⟩
        show (match Nat.mod (Nat.succ (Nat.mul 2 k)) 2 with | 0 => l.get (Nat.div (Nat.succ (Nat.mul 2 k)) 2) | Nat.succ _ => r.get (Nat.div (Nat.succ (Nat.mul 2 k)) 2)) = _
        have e1 : Nat.mod (Nat.succ (Nat.mul 2 k)) 2 = 1 := by show (2 * k + 1) % 2 = 1; omega
        have e2 : Nat.div (Nat.succ (Nat.mul 2 k)) 2 = k := by show (2 * k + 1) / 2 = k; omega
        rw [e1, e2]; exact h2
    unfold TTy.meths at h
    split at h
    · rename_i g hg
      rcases List.mem_cons.1 h with h | h
      · cases h
        cases t with
        | none => cases hg
        | some ti => exact ⟨0, ti, rfl, rfl, hg⟩
      · exact sub h
    · exact sub h
theorem findN_ok {t f : Nat} : ∀ {l : List (Nat × Nat)}, findN t l = some f → (t, f) ∈ l
  | [], h => by cases h
  | (u, g) :: l, h => by
    have h : (bif Nat.beq u t then some g else findN t l) = some f := h
    cases hb : Nat.beq u t with
    | true =>
      rw [hb] at h
      cases h
      rw [nat_beq.1 hb]; exact List.mem_cons_self
    | false =>
      rw [hb] at h
      exact List.mem_cons_of_mem _ (findN_ok h)
theorem oInvoke_ok (hT : TabOk P ty) (hF : CallOk P ty F) (H : RelW ty φ E h w) (hE : ∀ b, ¬ E b) {recv : Operand} {name : String} {x : O} {c : Call} (hc : c.callee = .invoke recv name) {o : Oper} {a : Act} (ho : o.op = .call c) {args : List O}
    (hg : RelV φ (x e) (a.eval recv)) (ha : RelL φ (vals e args) (c.args.toList.map a.eval)) (hr : oInvoke (ty.meths name fun k => k) x args F e h = .ok v h') : OpDoes P ty φ E h v h' o a w := by
  unfold oInvoke at hr
  split at hr
  case h_2 => cases hr
  rename_i t u hxe
  split at hr
  case h_2 => cases hr
  rename_i f hf
  rw [forceV_is, forceL_is] at hr
  rw [hxe] at hg
  generalize hxe' : a.eval recv = xv at hg
  cases hg with
  | @iface _ _ u' hu =>
    obtain ⟨k, ti, hk, h2, h3⟩ := meths_ok (findN_ok hf)
    have hk : t = k := hk
    subst hk
    have hm := (hT t ti h2).ms name f h3 u' w
    refine call_ok hF H hE (.cons hu ha) hr ?_
    have e1 : c.args.map a.eval = ⟨c.args.toList.map a.eval⟩ := by apply Array.ext'; simp
    unfold execOp
    rw [ho]
    have e2 : (#[Value.iface t u'] ++ (⟨c.args.toList.map a.eval⟩ : Array Value))[0]? = some (.iface t u') := by simp
    have e3 : (#[Value.iface t u'] ++ (⟨c.args.toList.map a.eval⟩ : Array Value)).extract 1 (#[Value.iface t u'] ++ (⟨c.args.toList.map a.eval⟩ : Array Value)).size = ⟨c.args.toList.map a.eval⟩ := by apply Array.ext'; simp; exact List.take_of_length_le (by simp)
    have e4 : #[u'] ++ (⟨c.args.toList.map a.eval⟩ : Array Value) = ⟨u' :: c.args.toList.map a.eval⟩ := by apply Array.ext'; simp
    simp only [resolve, hc, e1, hxe', Sem.run_bind, Sem.run_pure, Result.andThen_ok, invoke, e2, e3, callMethod, run_program, hm, e4]
theorem getObj_run {b : Nat} {ob : Obj} (h1 : w.heap[b]? = some ob) (h2 : (match ob with | .cells .. => true | _ => false) = false) : (getObj b).run P w = .ok ob w := by
  unfold getObj
  simp only [Sem.run, h1]
  cases ob <;> first | rfl | cases h2
theorem RelE.length : ∀ {l : List Ent} {l' : List MapEntry}, RelE φ l l' → l'.length = l.length
  | _, _, .nil => rfl
  | _, _, .cons _ _ t => congrArg (· + 1) t.length
theorem ents_ok {r : Nat} {es : List Ent} {c : Nat} (hr : entsOf h r = .ok es c) : h.bl.get r = .map es c := by
  unfold entsOf entB at hr
  split at hr
  · cases hr; assumption
  · cases hr
theorem RelW.entsAt (H : RelW ty φ E h w) {r : Nat} {p : Pl} (hp : φ r = some p) (hE : ¬ E r) {es : List Ent} {c : Nat} (hr : entsOf h r = .ok es c) :
    ∃ es', w.heap[p.blk]? = some (.map ⟨es'⟩ c) ∧ RelE φ es es' := by
  have := H.row r p hp hE
  rw [ents_ok hr] at this
  generalize w.heap[p.blk]? = o at this
  cases this with
  | map h => exact ⟨_, rfl, h⟩
theorem oLenS_ok (H : RelW ty φ E h w) {x : O} {x' : Value} {ats : Array TypeId} {t t' el : TypeId} (h0 : ats[0]? = some t) {ti : TI} (T : TyOk P t ti) (hk : ti.k = .slice el) (hx : RelV φ (x e) x') (hr : oLenS x F e h = .ok v h') :
    Gives ty φ E h w v h' ((Builtin.len_ ats t' #[x']).run P w) := by
  unfold oLenS at hr
  split at hr
  case h_2 => cases hr
  rename_i a n c hxe
  rw [hxe] at hx
  cases hr
  obtain ⟨d, hd, hkd⟩ := T.desc
  rw [hk] at hkd; cases hkd
  have key : (Builtin.len_ ats t' #[x']).run P w = .ok (goInt n) w := by
    cases hx <;> simp only [Builtin.len_, h0, Sem.run_bind, hd, Result.andThen_ok, Sem.run_pure, List.getElem?_toArray, List.getElem?_cons_zero]
  rw [key]; exact .same H (.int _ _)
theorem oCapS_ok (H : RelW ty φ E h w) {x : O} {x' : Value} {ats : Array TypeId} {t t' el : TypeId} (h0 : ats[0]? = some t) {ti : TI} (T : TyOk P t ti) (hk : ti.k = .slice el) (hx : RelV φ (x e) x') (hr : oCapS x F e h = .ok v h') :
    Gives ty φ E h w v h' ((Builtin.cap_ ats t' #[x']).run P w) := by
  unfold oCapS at hr
  split at hr
  case h_2 => cases hr
  rename_i hxe
  rw [hxe] at hx
  cases hr
  obtain ⟨d, hd, hkd⟩ := T.desc
  rw [hk] at hkd; cases hkd
  have key : (Builtin.cap_ ats t' #[x']).run P w = .ok (goInt 0) w := by
    cases hx <;> simp only [Builtin.cap_, h0, Sem.run_bind, hd, Result.andThen_ok, Sem.run_pure, List.getElem?_toArray, List.getElem?_cons_zero] <;> rfl
  rw [key]; exact .same H (.int _ _)
theorem oLenT_ok (H : RelW ty φ E h w) {x : O} {x' : Value} {ats : Array TypeId} {t t' : TypeId} (h0 : ats[0]? = some t) {ti : TI} (T : TyOk P t ti) (hk : ti.k = .string) (hx : RelV φ (x e) x') (hr : oLenT x F e h = .ok v h') :
    Gives ty φ E h w v h' ((Builtin.len_ ats t' #[x']).run P w) := by
  unfold oLenT at hr
  split at hr
  case h_2 => cases hr
  rename_i s hxe
  rw [hxe] at hx
  rw [forceN_is, lenL_is] at hr
  cases hr
  obtain ⟨d, hd, hkd⟩ := T.desc
  rw [hk] at hkd; cases hkd
  obtain rfl := hx.string_inv
  have key : (Builtin.len_ ats t' #[.string s]).run P w = .ok (goInt s.size) w := by
    simp only [Builtin.len_, h0, Sem.run_bind, hd, Result.andThen_ok, Sem.run_pure, List.getElem?_toArray, List.getElem?_cons_zero]
  rw [key]; exact .same H (.int _ _)
theorem oLenM_ok (H : RelW ty φ E h w) {x : O} {x' : Value} {ats : Array TypeId} {t t' kt el : TypeId} (h0 : ats[0]? = some t) {ti : TI} (T : TyOk P t ti) (hk : ti.k = .map kt el) (hx : RelV φ (x e) x')
    (hE : ∀ r, x e = .map (some r) → ¬ E r) (hr : oLenM x F e h = .ok v h') : Gives ty φ E h w v h' ((Builtin.len_ ats t' #[x']).run P w) := by
  obtain ⟨d, hd, hkd⟩ := T.desc
  rw [hk] at hkd; cases hkd
  unfold oLenM at hr
  split at hr
  · rename_i hxe
    rw [hxe] at hx
    cases hr; cases hx
    have key : (Builtin.len_ ats t' #[.map none]).run P w = .ok (goInt 0) w := by
      simp only [Builtin.len_, h0, Sem.run_bind, hd, Result.andThen_ok, Sem.run_pure, List.getElem?_toArray, List.getElem?_cons_zero]
    rw [key]; exact .same H (.int _ _)
  · rename_i r hxe
    rw [hxe] at hx
    cases hx with
    | @map _ p hp =>
      split at hr
      case h_2 => cases hr
      rename_i es c hes
      rw [forceN_is, lenL_is] at hr
      cases hr
      obtain ⟨es', hw, hrel⟩ := H.entsAt hp (hE r hxe) hes
      have key : (Builtin.len_ ats t' #[.map (some p.blk)]).run P w = .ok (goInt es.length) w := by
        simp only [Builtin.len_, h0, Sem.run_bind, hd, Result.andThen_ok, Sem.run_pure, List.getElem?_toArray, List.getElem?_cons_zero, getObj_run hw rfl]
        rw [← hrel.length]; rfl
      rw [key]; exact .same H (.int _ _)
  · cases hr
theorem len_arr {x' : Value} {ats : Array TypeId} {t t' el : TypeId} {n : Nat} (h0 : ats[0]? = some t) {ti : TI} (T : TyOk P t ti) (hk : ti.k = .arr n el) : (Builtin.len_ ats t' #[x']).run P w = .ok (goInt n) w := by
  obtain ⟨d, hd, hkd⟩ := T.desc
  rw [hk] at hkd; cases hkd
  simp only [Builtin.len_, h0, Sem.run_bind, hd, Result.andThen_ok, Sem.run_pure, List.getElem?_toArray, List.getElem?_cons_zero]

theorem setObj_run {b : Nat} {ob ob' : Obj} (h1 : w.heap[b]? = some ob) (h2 : (match ob with | .cells .. => true | _ => false) = false) :
    (setObj b ob').run P w = .ok () { w with heap := w.heap.setIfInBounds b ob' } := by
  unfold setObj
  simp only [Sem.run, h1]
  cases ob <;> first | rfl | cases h2
/-- a block that is no row is written -/
theorem putObj_ok (H : RelW ty φ E h w) {r : Nat} {p : Pl} (hEr : ¬ E r) (hp : φ r = some p) (hl : Live h r) {o : Blk} {ob : Obj} {k : Hp → R} (hr : putBlk h r o k = .ok v h') (hsh : ShapeLe (h.bl.get r) o) (hB : RelB ty φ p o (some ob)) :
    ∃ h1, k h1 = .ok v h' ∧ RelW ty φ E h1 { w with heap := w.heap.setIfInBounds p.blk ob } ∧ Evo φ h w φ h1 { w with heap := w.heap.setIfInBounds p.blk ob } := by
  obtain ⟨bl, h256, hbl, hk⟩ := putBlk_ok hr
  have hlt := (H.dom r p hp).2
  have e1 : (w.heap.setIfInBounds p.blk ob).size = w.heap.size := by simp
  have e2 : ∀ k, k ≠ p.blk → (w.heap.setIfInBounds p.blk ob)[k]? = w.heap[k]? := fun k hk => by
    rw [Array.getElem?_setIfInBounds, if_neg (Ne.symm hk)]
  have e3 : (w.heap.setIfInBounds p.blk ob)[p.blk]? = some ob := by rw [Array.getElem?_setIfInBounds, if_pos rfl, if_pos hlt]
  exact ⟨_, hk, H.put hEr h256 hp hl hbl e1 e2 (by show RelB ty φ p o ((w.heap.setIfInBounds p.blk ob)[p.blk]?); rw [e3]; exact hB), .put (H.notInp hp h256) hp hl hbl hsh e1 e2 rfl rfl rfl⟩
theorem live_ents {r : Nat} {es : List Ent} {c : Nat} (hr : entsOf h r = .ok es c) : Live h r := by
  unfold Live; rw [ents_ok hr]; intro hd; cases hd
theorem oClearMap_ok (H : RelW ty φ E h w) (hE : ∀ b, ¬ E b) {x : O} {x' : Value} {ats : Array TypeId} {t t' : TypeId} {ti : TI} (h0 : ats[0]? = some t) (T : TyOk P t ti) (hx : RelV φ (x e) x') (hr : oClearMap x F e h = .ok v h') :
    Gives ty φ E h w v h' ((Builtin.clear_ ats t' #[x']).run P w) := by
  obtain ⟨d, hd, _⟩ := T.desc
  unfold oClearMap at hr
  split at hr
  · rename_i hxe
    rw [hxe] at hx
    cases hr; cases hx
    have key : (Builtin.clear_ ats t' #[.map none]).run P w = .ok noRes w := by
      simp only [Builtin.clear_, h0, Sem.run_bind, hd, Result.andThen_ok, Sem.run_pure, List.getElem?_toArray, List.getElem?_cons_zero]; rfl
    rw [key]; exact .same H (.tuple .nil)
  · rename_i r hxe
    rw [hxe] at hx
    cases hx with
    | @map _ p hp =>
      split at hr
      case h_2 => cases hr
      rename_i es c hes
      obtain ⟨es', hw, hrel⟩ := H.entsAt hp (hE r) hes
      obtain ⟨h1, hk, H1, ev⟩ := putObj_ok (ob := .map #[] c) H (hE _) hp (live_ents hes) hr (by rw [ents_ok hes]; exact .inr trivial) (.map .nil)
      cases hk
      have key : (Builtin.clear_ ats t' #[.map (some p.blk)]).run P w = .ok noRes { w with heap := w.heap.setIfInBounds p.blk (.map #[] c) } := by
        simp only [Builtin.clear_, h0, Sem.run_bind, hd, Result.andThen_ok, Sem.run_pure, List.getElem?_toArray, List.getElem?_cons_zero, getObj_run hw rfl, setObj_run hw rfl]; rfl
      rw [key]; exact ⟨_, _, φ, rfl, .tuple .nil, H1, ev⟩
  · cases hr
theorem oClear_ok (H : RelW ty φ E h w) (hE : ∀ b, ¬ E b) {x : O} {x' : Value} {ats : Array TypeId} {t t' el : TypeId} {ti ei : TI} (h0 : ats[0]? = some t) (T : TyOk P t ti) (hk : ti.k = .slice el) (TE : TyOk P el ei) (hz : ei.zero.length = ei.size)
    (hx : RelV φ (x e) x') (hr : oClear ei.zero x F e h = .ok v h') : Gives ty φ E h w v h' ((Builtin.clear_ ats t' #[x']).run P w) := by
  obtain ⟨d, hd, hkd⟩ := T.desc
  rw [hk] at hkd; cases hkd
  obtain ⟨z, _, hzr, hzc, hzp⟩ := TE.zeroOk hz
  unfold oClear at hr
  split at hr
  · rename_i hxe
    rw [hxe] at hx
    cases hr; cases hx
    have key : (Builtin.clear_ ats t' #[.slice none 0 0]).run P w = .ok noRes w := by
      simp only [Builtin.clear_, h0, Sem.run_bind, hd, Result.andThen_ok, Sem.run_pure, List.getElem?_toArray, List.getElem?_cons_zero]; rfl
    rw [key]; exact .same H (.tuple .nil)
  · rename_i a n c hxe
    rw [hxe] at hx
    cases hx with
    | @slice _ a' _ _ c' hlc hs =>
      cases n with
      | zero =>
        cases hr
        have key : (Builtin.clear_ ats t' #[.slice (some a') 0 c']).run P w = .ok noRes w := by
          simp only [Builtin.clear_, h0, Sem.run_bind, hd, Result.andThen_ok, Sem.run_pure, List.getElem?_toArray, List.getElem?_cons_zero]; rfl
        rw [key]; exact .same H (.tuple .nil)
      | succ n =>
        have hrel : RelL φ (repL ei.zero (n + 1)) (repL ei.zero (n + 1)) := repL_rel (.plain hzp) (n + 1)
        obtain ⟨h1, w1, hk2, hrun, H1, ev⟩ := storeL_ok (P := P) H hr (slice_adr hlc hs (Nat.succ_pos n)) hrel (hE _)
        cases hk2
        have hc : (Builtin.zeroCells z.cells (n + 1)).toList = repL ei.zero (n + 1) := by rw [zeroCells_is, hzc]
        have key : (Builtin.clear_ ats t' #[.slice (some a') (n + 1) c']).run P w = .ok noRes w1 := by
          simp only [Builtin.clear_, h0, Sem.run_bind, hd, Result.andThen_ok, Sem.run_pure, List.getElem?_toArray, List.getElem?_cons_zero, hzr, hc, hrun]; rfl
        rw [key]; exact ⟨_, _, φ, rfl, .tuple .nil, H1, ev⟩
  · cases hr
theorem oBytes_ok (H : RelW ty φ E h w) (hE : ∀ b, ¬ E b) {x : O} {x' : Value} {t el : TypeId} {ti ei : TI} (T : TyOk P t ti) (hk : ti.k = .slice el) (TE : TyOk P el ei) (he : ei.k = .int .u8) (hx : RelV φ (x e) x') (hr : oBytes x F e h = .ok v h') :
    Gives ty φ E h w v h' ((convert t t x').run P w) := by
  obtain ⟨d, hd, hkd⟩ := T.und
  rw [hk] at hkd; cases hkd
  obtain ⟨d3, h3, k3⟩ := TE.und
  rw [he] at k3; cases k3
  unfold oBytes at hr
  split at hr
  case h_2 => cases hr
  rename_i a n c hxe
  rw [hxe] at hx
  have hx0 := hx
  cases hx with
  | @slice _ a' _ _ c' hlc hs =>
    split at hr
    case h_2 => cases hr
    rename_i ct s en0 hrow
    split at hr
    case h_1 => cases hr
    rename_i en
    obtain ⟨s1, s2, p, hp, hbl, hor⟩ := hs
    obtain ⟨cs, tt, fr, hw, R⟩ := H.rowAt hp (hE _) hrow
    have hlive : Live h a.block := by unfold Live; rw [rowOf_ok hrow]; intro hd; cases hd
    obtain ⟨bl, h256, hbl2, hk2⟩ := putBlk_ok hr
    cases hk2
    let fr' : Nat × Nat := if fr.1 == fr.2 then (cs.size, cs.size + 1) else (min fr.1 cs.size, max fr.2 (cs.size + 1))
    let w' : World := w.freeze ⟨a'.block, cs.size, none⟩ 1
    have hf : ∃ g : Obj → Obj, w'.heap = w.heap.modify p.blk g ∧ g (.cells cs tt fr) = .cells cs tt fr' := by
      obtain ⟨lo, hi⟩ := fr
      refine ⟨_, by show (w.freeze ⟨a'.block, cs.size, none⟩ 1).heap = _; unfold World.freeze; rw [if_neg Nat.one_ne_zero, hbl], rfl⟩
    obtain ⟨g, hheap, hg⟩ := hf
    have e1 : w'.heap.size = w.heap.size := by rw [hheap]; simp
    have e2 : ∀ k, k ≠ p.blk → w'.heap[k]? = w.heap[k]? := fun k hk => by
      rw [hheap, Array.getElem?_modify, if_neg (Ne.symm hk)]
    have e3 : w'.heap[p.blk]? = some (.cells cs tt fr') := by
      rw [hheap, Array.getElem?_modify, if_pos rfl, hw, Option.map_some, hg]
    have e4 : w'.tape = w.tape ∧ w'.os = w.os ∧ w'.output = w.output := by
      show (w.freeze ⟨a'.block, cs.size, none⟩ 1).tape = _ ∧ (w.freeze ⟨a'.block, cs.size, none⟩ 1).os = _ ∧ (w.freeze ⟨a'.block, cs.size, none⟩ 1).output = _
      unfold World.freeze
      rw [if_neg Nat.one_ne_zero]
      exact ⟨rfl, rfl, rfl⟩
    have hB : RelB ty φ p (.cells ct s (en + 1)) w'.heap[p.blk]? := by
      rw [e3]
      refine .cells { R with loose := .inl ?_ }
      have := R.hard
      show fr'.1 = fr'.2 ∨ cs.size ≤ fr'.1
      refine .inr ?_
      simp only [fr']
      split
      · exact Nat.le_refl _
      · rename_i hne
        have hne' : fr.1 ≠ fr.2 := by simpa using hne
        rcases this with h | h
        · exact absurd h hne'
        · show cs.size ≤ min fr.1 cs.size
          omega
    have key : (convert t t (.slice (some a') n c')).run P w = .ok (.slice (some a') n c') w' := by
      have hsh : w.shape? a'.block = some (tt, cs.size) := by rw [hbl]; simp [World.shape?, hw]
      simp only [convert, Sem.run_bind, run_underlying hd, run_underlying h3, Result.andThen_ok, beq_self_eq_true, markStringish, run_shape, hsh, run_freeze, Sem.run_pure]
      rfl
    rw [key]
    exact ⟨_, w', φ, rfl, hx0, H.put (hE _) h256 hp hlive hbl2 e1 e2 hB, .put (H.notInp hp h256) hp hlive hbl2 (by rw [rowOf_ok hrow]; exact .inr ⟨rfl, rfl⟩) e1 e2 e4.1 e4.2.1 e4.2.2⟩
end
end Go.Proofs.Ytkafejncffinmaa

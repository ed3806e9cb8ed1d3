/-
  A region's operations, one behind the other, as the machine has carried them out.
-/
import Derived.Test.YtkafejncffinmaaStill2
set_option linter.unusedSimpArgs false
set_option linter.unusedVariables false
namespace Go.Proofs.Ytkafejncffinmaa
open Go

/-- what each slot holds, as far as it is known -/
abbrev Rho := Nat → Option Value
noncomputable def rhoOf (A : List Nat) (σ : Sg) (e : Env) : Rho := fun t => match srcO A σ (.tmp t) with
  | some s => some (srcG s e)
  | none => none
noncomputable def evR (ρ : Rho) : Operand → Option Value
  | .tmp t => ρ t
  | .const v => if plainC v then some v else none
  | .func g => some (.func (.func g) #[] #[])
  | .global _ => none
theorem rhoOf_is (A : List Nat) (σ : Sg) (e : Env) (t : Nat) : rhoOf A σ e t = match findS t σ with
    | some s => some (srcG s e)
    | none => match memN t A with
      | true => none
      | false => match Nat.blt t 320 with
        | true => some (slotG t e)
        | false => none := by
  show (match srcO A σ (.tmp t) with | some s => some (srcG s e) | none => none) = _
  show (match (match findS t σ with | some s => some s | none => match memN t A with | true => none | false => match Nat.blt t 320 with | true => some (Src.s t) | false => none) with | some s => some (srcG s e) | none => none) = _
  cases findS t σ with
  | some s => rfl
  | none =>
    cases memN t A with
    | true => rfl
    | false => cases Nat.blt t 320 <;> rfl
theorem src_ev {A : List Nat} {σ : Sg} {x : Operand} {s : Src} (h : srcO A σ x = some s) (e : Env) : evR (rhoOf A σ e) x = some (srcG s e) := by
  cases x with
  | tmp t => show (match srcO A σ (.tmp t) with | some s => some (srcG s e) | none => none) = _; rw [h]
  | const v =>
    have h : (match plainC v with | true => some (Src.c v) | false => none) = some s := h
    cases hp : plainC v with
    | true => rw [hp] at h; cases h; show (if plainC v then some v else none) = _; rw [if_pos hp]; rfl
    | false => rw [hp] at h; cases h
  | func g => cases h; rfl
  | global _ => cases h
theorem cO_src {f : Fr} {x : Operand} {y : O} (h : cO f x = some y) : ∃ s, srcO f.A f.σ x = some s ∧ y = srcG s := by
  unfold cO at h
  split at h
  · rename_i s hs; cases h; exact ⟨s, hs, rfl⟩
  · cases h
theorem cO_ev {A : List Nat} {σ : Sg} {x : Operand} {y : O} (h : cO ⟨A, σ⟩ x = some y) (e : Env) : evR (rhoOf A σ e) x = some (y e) := by
  obtain ⟨s, hs, rfl⟩ := cO_src h
  exact src_ev hs e
theorem plainC_rel {φ : Phi} {v : Value} (h : plainC v = true) : RelV φ v v := by
  unfold plainC at h
  split at h
  · rename_i cs
    exact .agg (l := cs.toList) (l' := cs.toList) (.plain h)
  · exact .plain h

/-- the slots that are not laid: each once -/
structure SgOk (A : List Nat) (σ : Sg) : Prop where
  mem : ∀ p ∈ σ, memN p.1 A = true
  nodup : (σ.map (·.1)).Nodup
  lt : ∀ p ∈ σ, ∀ n, p.2 = .s n → n < 320
theorem SgOk.nil (A : List Nat) : SgOk A [] where
  mem := fun p hp => by cases hp
  nodup := List.nodup_nil
  lt := fun p hp => by cases hp

theorem beq_false {a b : Nat} (h : Nat.beq a b = false) : a ≠ b := fun e => by rw [e, Nat.beq_refl] at h; cases h
theorem findS_mem : ∀ {σ : Sg} {t : Nat} {s : Src}, findS t σ = some s → (t, s) ∈ σ
  | (d, s') :: l, t, s, h => by
    unfold findS at h
    split at h
    · rename_i hb
      cases h
      have := nat_beq.1 hb
      subst this; exact List.mem_cons_self
    · exact List.mem_cons_of_mem _ (findS_mem h)
theorem findS_of_mem : ∀ {σ : Sg} {t : Nat} {s : Src}, (σ.map (·.1)).Nodup → (t, s) ∈ σ → findS t σ = some s
  | (d, s') :: l, t, s, hn, h => by
    unfold findS
    rw [List.map_cons, List.nodup_cons] at hn
    rcases List.mem_cons.1 h with h | h
    · cases h
      rw [Nat.beq_refl]
    · have : d ≠ t := by
        intro e; subst e
        exact hn.1 (List.mem_map.2 ⟨_, h, rfl⟩)
      have hb : Nat.beq d t = false := by
        cases hb : Nat.beq d t with
        | true => exact absurd (nat_beq.1 hb) this
        | false => rfl
      rw [hb]; exact findS_of_mem hn.2 h
theorem dropS_sub : ∀ {σ : Sg} {d : Nat}, (dropS d σ).Sublist σ ∧ ∀ p ∈ dropS d σ, p.2 ≠ .s d
  | [], d => ⟨.slnil, fun p hp => by cases hp⟩
  | (t, .s n) :: l, d => by
    obtain ⟨h1, h2⟩ := dropS_sub (σ := l) (d := d)
    unfold dropS
    split
    · exact ⟨h1.cons _, h2⟩
    · rename_i hb
      refine ⟨h1.cons_cons _, fun p hp => ?_⟩
      rcases List.mem_cons.1 hp with rfl | hp
      · intro e; cases e; exact beq_false hb rfl
      · exact h2 p hp
  | (t, .c v) :: l, d => by
    obtain ⟨h1, h2⟩ := dropS_sub (σ := l) (d := d)
    unfold dropS
    refine ⟨h1.cons_cons _, fun p hp => ?_⟩
    rcases List.mem_cons.1 hp with rfl | hp
    · intro e; cases e
    · exact h2 p hp
theorem unkey_sub : ∀ {σ : Sg} {d : Nat}, (unkey d σ).Sublist σ ∧ ∀ p ∈ unkey d σ, p.1 ≠ d
  | [], d => ⟨.slnil, fun p hp => by cases hp⟩
  | (t, s) :: l, d => by
    obtain ⟨h1, h2⟩ := unkey_sub (σ := l) (d := d)
    unfold unkey
    split
    · exact ⟨h1.cons _, h2⟩
    · rename_i hb
      refine ⟨h1.cons_cons _, fun p hp => ?_⟩
      rcases List.mem_cons.1 hp with rfl | hp
      · exact beq_false hb
      · exact h2 p hp
theorem SgOk.sub {A : List Nat} {σ σ' : Sg} (h : SgOk A σ) (hs : σ'.Sublist σ) : SgOk A σ' :=
  ⟨fun p hp => h.mem p (hs.subset hp), (hs.map (·.1)).nodup h.nodup, fun p hp => h.lt p (hs.subset hp)⟩
theorem SgOk.alias {A : List Nat} {σ : Sg} (h : SgOk A σ) {d : Nat} (hd : memN d A = true) {s : Src} (hs : ∀ n, s = .s n → n < 320) : SgOk A ((d, s) :: unkey d σ) := by
  have h' := h.sub (unkey_sub (d := d)).1
  refine ⟨fun p hp => ?_, ?_, fun p hp => ?_⟩
  · rcases List.mem_cons.1 hp with rfl | hp
    · exact hd
    · exact h'.mem p hp
  rotate_left
  · rcases List.mem_cons.1 hp with rfl | hp
    · exact hs
    · exact h'.lt p hp
  · rw [List.map_cons, List.nodup_cons]
    refine ⟨fun hm => ?_, h'.nodup⟩
    obtain ⟨p, hp, e⟩ := List.mem_map.1 hm
    exact (unkey_sub (d := d)).2 p hp e

theorem rho_lay {A : List Nat} {σ : Sg} {e : Env} (hS : SgOk A σ) {d : Nat} (hd : memN d A = false) (hlt : d < 320) (v : Value) {t : Nat} {u : Value}
    (h : rhoOf A (dropS d σ) (Env.set d v e) t = some u) : if t = d then u = v else rhoOf A σ e t = some u := by
  rw [rhoOf_is] at h
  cases hf : findS t (dropS d σ) with
  | some s =>
    simp only [hf] at h
    cases h
    have hm := findS_mem hf
    have hm' := dropS_sub.1.subset hm
    have hne := (dropS_sub (σ := σ) (d := d)).2 _ hm
    have hA := hS.mem _ hm'
    have ht : t ≠ d := by intro e; subst e; simp only at hA; rw [hd] at hA; cases hA
    rw [if_neg ht, rhoOf_is, findS_of_mem hS.nodup hm']
    simp only
    congr 1
    cases s with
    | c v => rfl
    | s n =>
      have hn : n ≠ d := fun e => hne (by rw [e])
      show slotG n e = slotG n (Env.set d v e)
      have h3 : n < 320 := hS.lt _ hm' n rfl
      rw [slotG_is n h3, slotG_is n h3, Env.get_set _ _ _ _ hlt h3, if_neg hn]
  | none =>
    simp only [hf] at h
    cases hm : memN t A with
    | true => simp only [hm] at h; cases h
    | false =>
      simp only [hm] at h
      cases hb : Nat.blt t 320 with
      | false => simp only [hb] at h; cases h
      | true =>
        simp only [hb] at h
        have h3 := nat_blt.1 hb
        cases h
        have hg : slotG t (Env.set d v e) = if t = d then v else e.get t := by
          rw [slotG_is t h3, Env.get_set _ _ _ _ hlt h3]
        rw [hg]
        split
        · rfl
        · have hf2 : findS t σ = none := by
            cases hf2 : findS t σ with
            | none => rfl
            | some s =>
              have := hS.mem _ (findS_mem hf2)
              simp only at this; rw [hm] at this; cases this
          rw [rhoOf_is]
          simp only [hf2, hm, hb]
          rw [slotG_is t h3]
theorem rho_alias {A : List Nat} {σ : Sg} {e : Env} (hS : SgOk A σ) {d : Nat} (hd : memN d A = true) (s : Src) {t : Nat} {u : Value}
    (h : rhoOf A ((d, s) :: unkey d σ) e t = some u) : if t = d then u = srcG s e else rhoOf A σ e t = some u := by
  rw [rhoOf_is] at h
  by_cases ht : t = d
  · rw [if_pos ht]
    subst ht
    have : findS t ((t, s) :: unkey t σ) = some s := by unfold findS; rw [Nat.beq_refl]
    simp only [this] at h
    cases h; rfl
  · rw [if_neg ht]
    have hb : Nat.beq d t = false := by
      cases hb : Nat.beq d t with
      | true => exact absurd (nat_beq.1 hb).symm ht
      | false => rfl
    have h1 : findS t ((d, s) :: unkey d σ) = findS t (unkey d σ) := by conv => lhs; unfold findS; rw [hb]
    have h2 : findS t (unkey d σ) = findS t σ := by
      cases hf : findS t (unkey d σ) with
      | some s' => exact (findS_of_mem hS.nodup (unkey_sub.1.subset (findS_mem hf))).symm
      | none =>
        cases hf2 : findS t σ with
        | none => rfl
        | some s' =>
          have hm := findS_mem hf2
          have : ∀ {σ : Sg}, (t, s') ∈ σ → (t, s') ∈ unkey d σ := by
            intro σ hm
            induction σ with
            | nil => cases hm
            | cons p l ih =>
              obtain ⟨a, b⟩ := p
              unfold unkey
              rcases List.mem_cons.1 hm with h | h
              · cases h
                have hb2 : Nat.beq t d = false := by
                  cases hb : Nat.beq t d with
                  | true => exact absurd (nat_beq.1 hb) ht
                  | false => rfl
                rw [hb2]; exact List.mem_cons_self
              · split
                · exact ih h
                · exact List.mem_cons_of_mem _ (ih h)
          have := findS_of_mem (hS.sub (unkey_sub (d := d)).1).nodup (this hm)
          rw [hf] at this; cases this
    rw [h1, h2] at h
    rw [rhoOf_is]; exact h

/-- what an operation did: of what was there it wrote at most what T says -/
structure Eff (T : Nat → Prop) (φ : Phi) (h : Hp) (w : World) (φ' : Phi) (h' : Hp) (w' : World) : Prop where
  le : φ.Le φ'
  new : ∀ i p, φ' i = some p → φ i = some p ∨ h.next ≤ i
  next : h.next ≤ h'.next
  size : w.heap.size ≤ w'.heap.size
  tape : w'.tape = w.tape
  os : w'.os = w.os
  output : w'.output = w.output
  frame : ∀ k, k < w.heap.size → (∀ i p, φ i = some p → p.inp = false → T i → Live h i → p.blk ≠ k) → w'.heap[k]? = w.heap[k]?
  back : ∀ i p, φ' i = some p → Live h' i → p.blk < w.heap.size → ∃ j q, φ j = some q ∧ Live h j ∧ q.blk = p.blk ∧ q.inp = p.inp ∧ (j = i ∨ T j)
  kept : ∀ i, i < h.next → ¬ T i → h'.bl.get i = h.bl.get i
  shape : ∀ i, i < h.next → ShapeLe (h.bl.get i) (h'.bl.get i)
  only : ∀ i, i < h.next → φ i = none → h'.bl.get i = h.bl.get i
  all : ∀ i, h.next ≤ i → i < h'.next → ∃ p, φ' i = some p
theorem Evo.eff {φ ψ : Phi} {h h' : Hp} {w w' : World} (ev : Evo φ h w ψ h' w') : Eff (fun c => h'.low ≤ c ∧ c ≤ h'.high) φ h w ψ h' w' where
  le := ev.le
  new := ev.new
  next := ev.next
  size := ev.size
  tape := ev.tape
  os := ev.os
  output := ev.output
  frame := fun k hk hf => ev.frame k hk fun i p e hn h1 h2 hl => hf i p e hn ⟨h1, h2⟩ hl
  back := ev.back
  kept := fun i hi ht => ev.kept i hi (by
    rcases Nat.lt_or_ge i h'.low with h | h
    · exact .inl h
    · rcases Nat.lt_or_ge h'.high i with h2 | h2
      · exact .inr h2
      · exact absurd ⟨h, h2⟩ ht)
  shape := ev.shape
  only := ev.only
  all := ev.all
/-- the same, of heaps with the same blocks -/
theorem Eff.of_bl {T : Nat → Prop} {φ ψ : Phi} {h h' g g' : Hp} {w w' : World} (ev : Eff T φ h w ψ h' w') (h1 : g.bl = h.bl) (h2 : g.next = h.next) (h3 : g'.bl = h'.bl) (h4 : g'.next = h'.next) : Eff T φ g w ψ g' w' where
  le := ev.le
  new := by rw [h2]; exact ev.new
  next := by rw [h2, h4]; exact ev.next
  size := ev.size
  tape := ev.tape
  os := ev.os
  output := ev.output
  frame := by unfold Live; rw [h1]; exact ev.frame
  back := by unfold Live; rw [h1, h3]; exact ev.back
  kept := by rw [h1, h2, h3]; exact ev.kept
  shape := by rw [h1, h2, h3]; exact ev.shape
  only := by rw [h1, h2, h3]; exact ev.only
  all := by rw [h2, h4]; exact ev.all
theorem Eff.evo {T : Nat → Prop} {φ ψ : Phi} {h h' : Hp} {w w' : World} (ev : Eff T φ h w ψ h' w') (hT : ∀ c, T c → h'.low ≤ c ∧ c ≤ h'.high) (hl : h'.low ≤ h.low) (hh : h.high ≤ h'.high) : Evo φ h w ψ h' w' where
  le := ev.le
  new := ev.new
  next := ev.next
  size := ev.size
  tape := ev.tape
  os := ev.os
  output := ev.output
  frame := fun k hk hf => ev.frame k hk fun i p e hn ht hl => hf i p e hn (hT i ht).1 (hT i ht).2 hl
  back := fun i p e hl hp => by
    obtain ⟨j, q, e1, e2, e3, e5, e4⟩ := ev.back i p e hl hp
    exact ⟨j, q, e1, e2, e3, e5, e4.imp id (hT j)⟩
  kept := fun i hi ho => ev.kept i hi fun ht => by have := hT i ht; omega
  low := hl
  high := hh
  shape := ev.shape
  only := ev.only
  all := ev.all
theorem RelW.of_bl {ty : TTy} {φ : Phi} {E : Nat → Prop} {h g : Hp} {w : World} (H : RelW ty φ E h w) (h1 : g.bl = h.bl) (h2 : g.next = h.next) : RelW ty φ E g w where
  dom := by rw [h2]; exact H.dom
  inj := by unfold Live; rw [h1]; exact H.inj
  row := by rw [h1]; exact H.row
  fresh := by rw [h1, h2]; exact H.fresh
  kind := by rw [h1]; exact H.kind
  inp := H.inp

/-- what an operation reads or writes is none of what has changed -/
def TouchR (ty : TTy) (ρ : Rho) (E : Nat → Prop) (op : Op) : Prop := match kd ty op with
  | .p => True
  | .a => True
  | .r x => ∀ u, evR ρ x = some u → ∀ b, blkOf u = .ok b → ¬ E b
  | .w _ => ∀ b, ¬ E b
  | .q => ∀ b, ¬ E b

/-- what was not there is not spoken of -/
theorem Eff.cut {T : Nat → Prop} {φ ψ : Phi} {h h' : Hp} {w w' : World} (ev : Eff T φ h w ψ h' w') (hd : ∀ i p, φ i = some p → i < h.next) : Eff (fun c => T c ∧ c < h.next) φ h w ψ h' w' where
  le := ev.le
  new := ev.new
  next := ev.next
  size := ev.size
  tape := ev.tape
  os := ev.os
  output := ev.output
  frame := fun k hk hf => ev.frame k hk fun i p e hn ht hl => hf i p e hn ⟨ht, hd i p e⟩ hl
  back := fun i p e hl hp => by
    obtain ⟨j, q, e1, e2, e3, e5, e4⟩ := ev.back i p e hl hp
    exact ⟨j, q, e1, e2, e3, e5, e4.imp id fun ht => ⟨ht, hd j q e1⟩⟩
  kept := fun i hi ho => ev.kept i hi fun ht => ho ⟨ht, hi⟩
  shape := ev.shape
  only := ev.only
  all := ev.all
theorem Eff.refl (φ : Phi) (h : Hp) (w : World) : Eff (fun _ => False) φ h w φ h w where
  le := .refl φ
  new := fun _ _ e => .inl e
  next := Nat.le_refl _
  size := Nat.le_refl _
  tape := rfl
  os := rfl
  output := rfl
  frame := fun _ _ _ => rfl
  back := fun i p e hl _ => ⟨i, p, e, hl, rfl, rfl, .inl rfl⟩
  kept := fun _ _ _ => rfl
  shape := fun _ _ => .refl _
  only := fun _ _ _ => rfl
  all := fun _ h1 h2 => absurd h2 (Nat.not_lt.2 h1)

/-- an operation whose bounds are known -/
def Tame (ty : TTy) (o : Oper) (ah : Ahead) : Prop := (kd ty o.op = .p ∨ ∃ x, kd ty o.op = .r x) ∨ (ah ≠ .plain ∧ ∀ old x xs, ah ≠ .chk old x xs)
/-- one operation that has been carried out -/
structure Core (P : Program) (ty : TTy) (o : Oper) (ah : Ahead) (ρ : Rho) (h h' : Hp) (v : Value) (T : Nat → Prop) : Prop where
  does : ∀ (φ : Phi) (E : Nat → Prop) (w : World) (a : Act), RelW ty φ E h w → (∀ x ∈ o.op.operands.toList, ∀ u, evR ρ x = some u → RelV φ u (a.eval x)) → TouchR ty ρ E o.op →
    ∀ (next : Act → World → Prop) (Q : Exit → Act → World → Prop), (∀ ψ v' w', RelV ψ v v' → RelW ty ψ E h' w' → Eff T φ h w ψ h' w' → Evo φ h w ψ h' w' → next (a.put o.dst v') w') → o.wp P a w next Q
  tame : Tame ty o ah → h'.low ≤ h.low ∧ h.high ≤ h'.high ∧ (∀ c, T c → h'.low ≤ c ∧ c ≤ h'.high) ∧ h'.mark = h.mark
  tlt : ∀ c, T c → c < h.next
  tp : (kd ty o.op = .p ∨ ∃ x, kd ty o.op = .r x) → (∀ c, ¬ T c) ∧ h' = h
  strong : ah = .quiet .strong → ∀ c, ¬ T c
  weak : ah = .quiet .weak → ∀ c, T c → h.mark ≤ c
  wr : ∀ x xs, ah = .wr x xs → ∀ c, T c → ∃ u, evR ρ x = some u ∧ blkOf u = .ok c
/-- what was asked ahead of it -/
structure Side (ah : Ahead) (ρ : Rho) (h : Hp) : Prop where
  wrx : ∀ x xs, ah = .wr x xs → ∀ y ∈ xs, ∀ u u' b, evR ρ x = some u → evR ρ y = some u' → blkOf u = .ok b → blkOf u' ≠ .ok b
  chk : ∀ old x xs, ah = .chk old x xs → ∀ y ∈ xs, ∀ u u' b, evR ρ x = some u → evR ρ y = some u' → blkOf u = .ok b → blkOf u' ≠ .ok b
  old : ∀ x xs, ah = .chk true x xs → ∀ u b, evR ρ x = some u → blkOf u = .ok b → b < h.mark
  known : ∀ x xs, (ah = .wr x xs ∨ ∃ old, ah = .chk old x xs) → (∃ u, evR ρ x = some u) ∧ ∀ y ∈ xs, ∃ u, evR ρ y = some u
/-- one operation of a region, as the machine has carried it out -/
structure SF (P : Program) (ty : TTy) (ops : List Oper) (o : Oper) (ah : Ahead) (ρ ρ' : Rho) (h h' : Hp) (v : Value) (run : Bool) (T : Nat → Prop) : Prop where
  slot : ∀ t u, ρ' t = some u → if o.dst = some t then u = v else ρ t = some u
  grd : match o.guard with
    | none => run = true
    | some (g, want) => ∃ og d c, ops[g]? = some og ∧ og.dst = some d ∧ ρ d = some c ∧ ((∃ b, c = .bool b ∧ run = (want == b)) ∨ (∃ l, c = .tuple l ∧ run = false))
  side : kd ty o.op ≠ .p → Side ah ρ h
  core : (run = true ∧ Core P ty o ah ρ h h' v T) ∨ (run = false ∧ v = noRes ∧ h' = h ∧ ∀ c, ¬ T c)

section
variable {P : Program} {ty : TTy} {F : CallF}

theorem does_raw (hT : TabOk P ty) (hF : CallOk P ty F) {A : List Nat} {σ : Sg} {e : Env} {o : Oper} {g g' : Hp} {v : Value} (hr : opC ty ⟨A, σ⟩ o.op F e g = .ok v g') (φ : Phi) (E : Nat → Prop) (w : World) (a : Act) (H : RelW ty φ E g w)
    (hn : ∀ x ∈ o.op.operands.toList, ∀ u, evR (rhoOf A σ e) x = some u → RelV φ u (a.eval x)) (ht : TouchR ty (rhoOf A σ e) E o.op) : OpDoes P ty φ E g v g' o a w := by
  refine opC_ok hT hF H (f := ⟨A, σ⟩) (e := e) (F := F) (fun x hx y hy => hn x hx _ (cO_ev hy e)) ?_ hr
  unfold Touch
  unfold TouchR at ht
  cases hk : kd ty o.op with
  | p => trivial
  | a => trivial
  | r x => rw [hk] at ht; exact fun y hy b hb => ht _ (cO_ev hy e) b hb
  | w x => rw [hk] at ht; exact ht
  | q => rw [hk] at ht; exact ht

/-- the heap, its bounds drawn in -/
noncomputable def tight (h : Hp) : Hp := { next := h.next, low := h.next, high := 0, mark := h.mark, bl := h.bl }
theorem core_plain (hT : TabOk P ty) (hF : CallOk P ty F) {A : List Nat} {σ : Sg} {e : Env} {o : Oper} {ah : Ahead} (hah : ah = .plain ∨ ∃ old x xs, ah = .chk old x xs) {h h' : Hp} {v : Value} (hr : opC ty ⟨A, σ⟩ o.op F e h = .ok v h') : ∃ T, Core P ty o ah (rhoOf A σ e) h h' v T := by
  have hns : ah ≠ .quiet .strong := by rcases hah with rfl | ⟨_, _, _, rfl⟩ <;> exact fun h => by cases h
  have hnw : ah ≠ .quiet .weak := by rcases hah with rfl | ⟨_, _, _, rfl⟩ <;> exact fun h => by cases h
  have hnr : ∀ x xs, ah ≠ .wr x xs := by rcases hah with rfl | ⟨_, _, _, rfl⟩ <;> exact fun _ _ h => by cases h
  have hnm : ¬ (ah ≠ .plain ∧ ∀ old x xs, ah ≠ .chk old x xs) := by
    rcases hah with rfl | ⟨_, _, _, rfl⟩
    · exact fun h => h.1 rfl
    · exact fun h => h.2 _ _ _ rfl
  by_cases hk : kd ty o.op = .p ∨ ∃ x, kd ty o.op = .r x
  · have K := opC_kp (ty := ty) (f := ⟨A, σ⟩) hk F e
    have hh := K.same hr
    have hr2 := K.at hr (tight h) rfl
    subst hh
    refine ⟨fun _ => False, { does := fun φ E w a H hn ht next Q hnx => ?_, tame := fun _ => ⟨Nat.le_refl _, Nat.le_refl _, fun _ h => h.elim, rfl⟩, tlt := fun _ h => h.elim, tp := fun _ => ⟨fun _ h => h, rfl⟩, strong := fun h => absurd h hns, weak := fun h => absurd h hnw, wr := fun _ _ h => absurd h (hnr _ _) }⟩
    have key : ∀ ψ v' w', RelV ψ v v' → RelW ty ψ E (tight h') w' → Evo φ (tight h') w ψ (tight h') w' → Eff (fun _ => False) φ h' w ψ h' w' := ?_
    · exact does_raw hT hF hr2 φ E w a (H.of_bl rfl rfl) hn ht next Q fun ψ v' w' hv H' ev => hnx ψ v' w' hv (H'.of_bl rfl rfl) (key ψ v' w' hv H' ev) ((key ψ v' w' hv H' ev).evo (fun _ h => h.elim) (Nat.le_refl _) (Nat.le_refl _))
    intro ψ v' w' hv H' ev
    have e1 : Eff (fun c => h'.next ≤ c ∧ c ≤ 0) φ h' w ψ h' w' := ev.eff.of_bl rfl rfl rfl rfl
    have hd : ∀ i p, φ i = some p → i < h'.next := fun i p e => (H.dom i p e).1
    have e2 := e1.cut hd
    exact { e2 with
      frame := fun k hk hf => e2.frame k hk fun i p e hn ht => by omega
      back := fun i p e hl hp => by
        obtain ⟨j, q, e1, e2, e3, e5, e4⟩ := e2.back i p e hl hp
        exact ⟨j, q, e1, e2, e3, e5, e4.imp id fun ht => by omega⟩
      kept := fun i hi _ => e2.kept i hi fun ht => by omega }
  · refine ⟨fun c => (h'.low ≤ c ∧ c ≤ h'.high) ∧ c < h.next, { does := fun φ E w a H hn ht next Q hnx => ?_, tame := fun h => absurd h (fun h => h.elim hk hnm), tlt := fun _ h => h.2, tp := fun h => absurd h hk, strong := fun h => absurd h hns, weak := fun h => absurd h hnw, wr := fun _ _ h => absurd h (hnr _ _) }⟩
    exact does_raw hT hF hr φ E w a H hn ht next Q fun ψ v' w' hv H' ev => hnx ψ v' w' hv H' (ev.eff.cut fun i p e => (H.dom i p e).1) ev
theorem core_wrapped (hT : TabOk P ty) (hF : CallOk P ty F) {A : List Nat} {σ : Sg} {e : Env} {o : Oper} {ah : Ahead} {h h' g' : Hp} {v : Value} (hr : opC ty ⟨A, σ⟩ o.op F e (tight h) = .ok v g')
    (h1 : h'.bl = g'.bl) (h2 : h'.next = g'.next) (h3 : h'.low = min h.low g'.low) (h4 : h'.high = max h.high g'.high) (h5 : h'.mark = h.mark)
    (hs : ah = .quiet .strong → h.next ≤ g'.low) (hw : ah = .quiet .weak → h.mark ≤ g'.low)
    (hx : ∀ x xs, ah = .wr x xs → ∀ c, g'.low ≤ c → c ≤ g'.high → c < h.next → ∃ u, evR (rhoOf A σ e) x = some u ∧ blkOf u = .ok c) (hnk : ¬ (kd ty o.op = .p ∨ ∃ x, kd ty o.op = .r x)) : ∃ T, Core P ty o ah (rhoOf A σ e) h h' v T := by
  refine ⟨fun c => (g'.low ≤ c ∧ c ≤ g'.high) ∧ c < h.next, { does := fun φ E w a H hn ht next Q hnx => ?_, tame := fun _ => ⟨by omega, by omega, fun c h => by omega, h5⟩, tlt := fun _ h => h.2, tp := fun h => absurd h hnk, strong := fun h c hc => ?_, weak := fun h c hc => ?_, wr := fun x xs h c hc => hx x xs h c hc.1.1 hc.1.2 hc.2 }⟩
  · refine does_raw hT hF hr φ E w a (H.of_bl rfl rfl) hn ht next Q fun ψ v' w' hv H' ev => ?_
    have e1 : Eff (fun c => g'.low ≤ c ∧ c ≤ g'.high) φ h w ψ h' w' := ev.eff.of_bl rfl rfl h1 h2
    exact hnx ψ v' w' hv (H'.of_bl h1 h2) (e1.cut fun i p e => (H.dom i p e).1) (e1.evo (fun c h => by omega) (by omega) (by omega))
  · have := hs h; omega
  · have := hw h; omega
end
end Go.Proofs.Ytkafejncffinmaa

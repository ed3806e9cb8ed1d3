/-
  A region's operations in the order of the text.
-/
import Derived.Test.YtkafejncffinmaaTrace2
set_option linter.unusedSimpArgs false
set_option linter.unusedVariables false
namespace Go.Proofs.Ytkafejncffinmaa
open Go

/-- no block -/
abbrev nil : Nat → Prop := fun _ => False

/-- the slots, on both sides -/
structure AR (N : Nat) (φ : Phi) (ρ : Rho) (a : Act) : Prop where
  size : a.tmps.size = N
  defs : a.defers = []
  rel : ∀ t u, ρ t = some u → RelV φ u (a.tmps.getD t undef)

theorem AR.ev {N : Nat} {φ : Phi} {ρ : Rho} {a : Act} (h : AR N φ ρ a) {x : Operand} {u : Value} (hu : evR ρ x = some u) : RelV φ u (a.eval x) := by
  cases x with
  | tmp t => exact h.rel t u hu
  | const v =>
    have hu : (if plainC v then some v else none) = some u := hu
    split at hu
    · rename_i hp; cases hu; exact plainC_rel hp
    · cases hu
  | func g => cases hu; exact .func _ .nil .nil
  | global g => cases hu
theorem AR.mono {N : Nat} {φ ψ : Phi} {ρ : Rho} {a : Act} (h : AR N φ ρ a) (hle : φ.Le ψ) : AR N ψ ρ a := ⟨h.size, h.defs, fun t u hu => (h.rel t u hu).mono hle⟩
theorem put_getD (a : Act) (d : Option Nat) (v : Value) (t : Nat) : (a.put d v).tmps.getD t undef = if d = some t ∧ t < a.tmps.size then v else a.tmps.getD t undef := by
  cases d with
  | none => rw [if_neg (fun h => by cases h.1)]; rfl
  | some d =>
    show (a.tmps.setIfInBounds d v).getD t undef = _
    rw [Array.getD_eq_getD_getElem?, Array.getElem?_setIfInBounds, Array.getD_eq_getD_getElem?]
    by_cases h : d = t
    · subst h
      rw [if_pos rfl]
      by_cases h2 : d < a.tmps.size
      · rw [if_pos h2, if_pos ⟨rfl, h2⟩]; rfl
      · rw [if_neg h2, if_neg (fun h => h2 h.2), Array.getElem?_eq_none (by omega)]
    · rw [if_neg h, if_neg (fun h2 => h (Option.some.inj h2.1))]
theorem put_size (a : Act) (d : Option Nat) (v : Value) : (a.put d v).tmps.size = a.tmps.size := by
  cases d with
  | none => rfl
  | some d => show (a.tmps.setIfInBounds d v).size = _; simp
theorem put_defs (a : Act) (d : Option Nat) (v : Value) : (a.put d v).defers = a.defers := by cases d <;> rfl
theorem AR.put {N : Nat} {φ ψ : Phi} {ρ ρ' : Rho} {a : Act} (h : AR N φ ρ a) (hle : φ.Le ψ) {d : Option Nat} (hd : ∀ t, d = some t → t < N) {v v' : Value} (hv : RelV ψ v v')
    (hs : ∀ t u, ρ' t = some u → if d = some t then u = v else ρ t = some u) : AR N ψ ρ' (a.put d v') where
  size := by rw [put_size]; exact h.size
  defs := by rw [put_defs]; exact h.defs
  rel := fun t u hu => by
    have := hs t u hu
    rw [put_getD]
    by_cases ht : d = some t
    · rw [if_pos ht] at this
      rw [if_pos ⟨ht, by rw [h.size]; exact hd t ht⟩, this]; exact hv
    · rw [if_neg ht] at this
      rw [if_neg (fun h => ht h.1)]
      exact (h.rel t u this).mono hle

theorem wanted_ok {P : Program} {ty : TTy} {all : List Oper} {o : Oper} {ah : Ahead} {ρ ρ' : Rho} {h h' : Hp} {v : Value} {run : Bool} {T : Nat → Prop} (s : SF P ty all o ah ρ ρ' h h' v run T) {a : Act} {φ : Phi}
    (hr : ∀ g want og d u, o.guard = some (g, want) → all[g]? = some og → og.dst = some d → ρ d = some u → RelV φ u (a.tmps.getD d undef)) : Region.wanted o (yielded all.toArray a.tmps) = run := by
  have hg := s.grd
  unfold Region.wanted
  cases hgd : o.guard with
  | none => rw [hgd] at hg; exact hg.symm
  | some gw =>
    obtain ⟨g, want⟩ := gw
    rw [hgd] at hg
    obtain ⟨og, d, c, h1, h2, h3, h4⟩ := hg
    have hrel := hr g want og d c hgd h1 h2 h3
    simp only
    have hy : yielded all.toArray a.tmps g = match a.tmps[d]? with | some (.bool b) => some b | _ => none := by
      unfold yielded
      have : (all.toArray[g]?).bind (·.dst) = some d := by rw [List.getElem?_toArray, h1]; exact h2
      rw [this]; rfl
    rw [Array.getD_eq_getD_getElem?] at hrel
    rcases h4 with ⟨b, rfl, hrun⟩ | ⟨ls, rfl, hrun⟩
    · have hb := hrel.bool_inv
      cases hq : a.tmps[d]? with
      | none => rw [hq] at hb; cases hb
      | some x =>
        rw [hq] at hb
        have hb : x = .bool b := hb
        rw [hy, hq, hb, hrun]
        cases b <;> cases want <;> rfl
    · rw [hrun, hy]
      cases hq : a.tmps[d]? with
      | none => rfl
      | some x =>
        rw [hq] at hrel
        have hrel : RelV φ (.tuple ls) x := hrel
        cases hrel; rfl

/-- what the run of the text tells of the machine's heaps -/
structure Txt (P : Program) (ty : TTy) (N : Nat) (φ0 : Phi) (ρ : Nat → Rho) (H : Nat → Hp) (V : Nat → Value) (T : Nat → Nat → Prop) (n : Nat) : Prop where
  next : ∀ j, j < n → (H j).next ≤ (H (j + 1)).next
  shape : ∀ j, j < n → ∀ i, i < (H j).next → ShapeLe ((H j).bl.get i) ((H (j + 1)).bl.get i)
  kept : ∀ j, j < n → ∀ i, i < (H j).next → ¬ T j i → (H (j + 1)).bl.get i = (H j).bl.get i
  fresh : ∀ j, j ≤ n → ∀ i, (H j).next ≤ i → (H j).bl.get i = .dead
  well : ∀ j, j ≤ n → ∃ (ψ : Phi) (w : World) (a : Act), RelW ty ψ nil (H j) w ∧ AR N ψ (ρ j) a ∧ φ0.Le ψ ∧ ∀ i, (H 0).next ≤ i → i < (H j).next → ∃ p, ψ i = some p

section
variable {P : Program} {ty : TTy}
theorem tr_text {N : Nat} {all : List Oper} {Q : Exit → Act → World → Prop} : ∀ (l : List Oper) {ahs : List Ahead} {ρ : Nat → Rho} {H : Nat → Hp} {V : Nat → Value} {run : Nat → Bool} {T : Nat → Nat → Prop} {a : Act} {w : World} {φ : Phi},
    Tr P ty all ahs l ρ H V run T → (∀ o ∈ l, ∀ d, o.dst = some d → d < N) → RelW ty φ nil (H 0) w → AR N φ (ρ 0) a →
    (Txt P ty N φ ρ H V T l.length → ∀ ψ a' w', RelW ty ψ nil (H l.length) w' → AR N ψ (ρ l.length) a' → Evo φ (H 0) w ψ (H l.length) w' → Q .normal a' w') → wpList P all.toArray Q l a w
  | [], ahs, ρ, H, V, run, T, a, w, φ, _, _, HW, HA, hq => by
    refine hq ?_ φ a w HW HA (.refl _ _ _)
    refine { next := fun j hj => absurd hj (Nat.not_lt_zero _), shape := fun j hj => absurd hj (Nat.not_lt_zero _), kept := fun j hj => absurd hj (Nat.not_lt_zero _), fresh := fun j hj i hi => ?_, well := fun j hj => ?_ }
    · have : j = 0 := Nat.le_zero.1 hj
      subst this; exact HW.fresh i hi
    · have : j = 0 := Nat.le_zero.1 hj
      subst this; exact ⟨φ, w, a, HW, HA, .refl _, fun i h1 h2 => absurd h2 (Nat.not_lt.2 h1)⟩
  | o :: l, ahs, ρ, H, V, run, T, a, w, φ, tr, hN, HW, HA, hq => by
    have s := tr.sf 0 o rfl
    have tr' : Tr P ty all ahs.tail l (fun j => ρ (j + 1)) (fun j => H (j + 1)) (fun j => V (j + 1)) (fun j => run (j + 1)) (fun j => T (j + 1)) :=
      ⟨fun j o' hj => by
        have := tr.sf (j + 1) o' hj
        have e : ahs.getD (j + 1) .plain = ahs.tail.getD j .plain := by cases ahs <;> rfl
        rw [e] at this; exact this⟩
    have hd : ∀ d, o.dst = some d → d < N := hN o List.mem_cons_self
    have rest : ∀ ψ v' w', RelV ψ (V 0) v' → RelW ty ψ nil (H 1) w' → Eff (T 0) φ (H 0) w ψ (H 1) w' → Evo φ (H 0) w ψ (H 1) w' → wpList P all.toArray Q l (a.put o.dst v') w' := by
      intro ψ v' w' hv HW' eff evo
      refine tr_text l tr' (fun o ho => hN o (List.mem_cons_of_mem _ ho)) HW' (HA.put eff.le hd hv s.slot) fun txt ψ2 a2 w2 q1 q2 q3 => hq ?_ ψ2 a2 w2 q1 q2 (evo.trans q3)
      refine { next := fun j hj => ?_, shape := fun j hj => ?_, kept := fun j hj => ?_, fresh := fun j hj i hi => ?_, well := fun j hj => ?_ }
      · cases j with
        | zero => exact eff.next
        | succ j => exact txt.next j (by simpa using hj)
      · cases j with
        | zero => exact eff.shape
        | succ j => exact txt.shape j (by simpa using hj)
      · cases j with
        | zero => exact eff.kept
        | succ j => exact txt.kept j (by simpa using hj)
      · cases j with
        | zero => exact HW.fresh i hi
        | succ j => exact txt.fresh j (by simpa using hj) i hi
      · cases j with
        | zero => exact ⟨φ, w, a, HW, HA, .refl _, fun i h1 h2 => absurd h2 (Nat.not_lt.2 h1)⟩
        | succ j =>
          obtain ⟨χ, w3, a3, r1, r2, r3, r4⟩ := txt.well j (by simpa using hj)
          refine ⟨χ, w3, a3, r1, r2, eff.le.trans r3, fun i h1 h2 => ?_⟩
          rcases Nat.lt_or_ge i (H 1).next with h | h
          · obtain ⟨p, hp⟩ := eff.all i h1 h
            exact ⟨p, r3 i p hp⟩
          · exact r4 i h h2
    have hw := wanted_ok s (a := a) (φ := φ) fun g want og d u _ _ _ hu => HA.rel d u hu
    unfold wpList
    rcases s.core with ⟨hrun, core⟩ | ⟨hrun, hv, hh, hT⟩
    · rw [hw, hrun, if_pos rfl]
      refine .inl (core.does φ nil w a HW (fun x _ u hu => HA.ev hu) ?_ _ _ fun ψ v' w' hv HW' eff evo => rest ψ v' w' hv HW' eff evo)
      unfold TouchR
      split <;> first | trivial | exact fun _ h => h | exact fun _ _ _ _ h => h
    · rw [hw, hrun, if_neg (by simp)]
      have hu : RelV φ (V 0) undef := by rw [hv]; exact .tuple .nil
      have e1 : Evo φ (H 0) w φ (H 1) w := by
        show Evo φ (H 0) w φ (H (0 + 1)) w
        rw [hh]; exact .refl _ _ _
      have e2 : Eff (T 0) φ (H 0) w φ (H 1) w := by
        show Eff (T 0) φ (H 0) w φ (H (0 + 1)) w
        rw [hh]
        exact { Eff.refl φ (H 0) w with frame := fun _ _ _ => rfl, back := fun i p e hl _ => ⟨i, p, e, hl, rfl, rfl, .inl rfl⟩, kept := fun _ _ _ => rfl }
      exact rest φ undef w hu (by show RelW ty φ nil (H (0 + 1)) w; rw [hh]; exact HW) e2 e1
end
end Go.Proofs.Ytkafejncffinmaa

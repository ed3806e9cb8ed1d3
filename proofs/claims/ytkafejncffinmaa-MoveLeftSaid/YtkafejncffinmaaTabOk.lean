/-
  A table of types, held against the program by the kernel.
-/
import Derived.Test.YtkafejncffinmaaFns
set_option linter.unusedSimpArgs false
set_option linter.unusedVariables false
namespace Go.Proofs.Ytkafejncffinmaa
open Go

/-- are two plain values the same? -/
noncomputable def veq : Value → Value → Bool
  | .bool a, .bool b => a == b
  | .int j a, .int k b => sameK j k && iEq a b
  | .string a, .string b => bEq a.data.toList b.data.toList
  | .pointer none, .pointer none => true
  | .slice none 0 0, .slice none 0 0 => true
  | .map none, .map none => true
  | .nilFunc, .nilFunc => true
  | .nilIface, .nilIface => true
  | _, _ => false
noncomputable def leq : List Value → List Value → Bool
  | [], [] => true
  | a :: x, b :: y => veq a b && leq x y
  | _, _ => false
noncomputable def zeq : Value → Value → Bool
  | .agg a, .agg b => leq a.toList b.toList
  | .agg _, _ => false
  | a, b => veq a b
theorem veq_ok {a b : Value} (h : veq a b = true) : a = b := by
  unfold veq at h
  split at h
  · simpa using h
  · rw [Bool.and_eq_true, iEq_is] at h
    have h1 := sameK_eq h.1
    rw [h1, eq_of_beq h.2]
  · rw [bEq_is] at h
    rename_i a b
    have e1 := data_ext (a := a) (eq_of_beq h)
    have e2 := data_ext (a := b) rfl
    exact congrArg Value.string (e1.trans e2.symm)
  all_goals first | rfl | cases h
theorem leq_ok : ∀ {a b : List Value}, leq a b = true → a = b
  | [], [], _ => rfl
  | x :: a, y :: b, h => by
    have h : (veq x y && leq a b) = true := h
    rw [Bool.and_eq_true] at h
    rw [veq_ok h.1, leq_ok h.2]
  | [], _ :: _, h => by cases h
  | _ :: _, [], h => by cases h
theorem zeq_ok {a b : Value} (h : zeq a b = true) : a = b := by
  unfold zeq at h
  split at h
  · rename_i x y
    have := leq_ok h
    congr 1
    exact Array.ext' this
  · cases h
  · exact veq_ok h

def eqFs : List (Nat × Nat × Nat) → List (Nat × Nat × Nat) → Bool
  | [], [] => true
  | (a, b, c) :: x, (d, e, f) :: y => Nat.beq a d && (Nat.beq b e && (Nat.beq c f && eqFs x y))
  | _, _ => false
theorem eqFs_ok : ∀ {x y : List (Nat × Nat × Nat)}, eqFs x y = true → x = y
  | [], [], _ => rfl
  | (a, b, c) :: x, (d, e, f) :: y, h => by
    have h : (Nat.beq a d && (Nat.beq b e && (Nat.beq c f && eqFs x y))) = true := h
    simp only [Bool.and_eq_true] at h
    rw [nat_beq.1 h.1, nat_beq.1 h.2.1, nat_beq.1 h.2.2.1, eqFs_ok h.2.2.2]
  | [], _ :: _, h => by cases h
  | _ :: _, [], h => by cases h

noncomputable def kindB (P : Program) (k : TK) (d : TypeDesc) : Bool := match k, d with
  | .int a, .int b => sameK a b
  | .bool, .bool => true
  | .string, .string => true
  | .ptr a, .pointer b => Nat.beq a b
  | .slice a, .slice b => Nat.beq a b
  | .arr n a, .array m b => Nat.beq n m && Nat.beq a b
  | .map n a, .map m b => Nat.beq n m && Nat.beq a b
  | .struct fs, .struct fields => eqFs (fields.toList.map fun f => (f.offset, P.cellsOf f.type, f.type)) fs && fields.toList.all fun f => (P.info? f.type).isSome
  | .iface, .interface _ => true
  | .func, .func _ _ _ => true
  | .other, .struct _ => false
  | .other, .array _ _ => false
  | .other, .interface _ => false
  | .other, _ => true
  | _, _ => false
theorem kindB_ok {P : Program} {k : TK} {d : TypeDesc} (h : kindB P k d = true) : KOk P k d := by
  unfold kindB at h
  split at h
  · rw [sameK_eq h]; exact .int _
  · exact .bool
  · exact .string
  · rw [nat_beq.1 h]; exact .ptr _
  · rw [nat_beq.1 h]; exact .slice _
  · rw [Bool.and_eq_true] at h
    rw [nat_beq.1 h.1, nat_beq.1 h.2]; exact .arr _ _
  · rw [Bool.and_eq_true] at h
    rw [nat_beq.1 h.1, nat_beq.1 h.2]; exact .map _ _
  · rw [Bool.and_eq_true] at h
    exact .struct (eqFs_ok h.1) h.2
  · exact .iface _
  · exact .func _ _ _
  · cases h
  · cases h
  · cases h
  · rename_i q1 q2 q3
    refine .other ?_
    split
    · rename_i f; exact absurd rfl (q1 f)
    · rename_i n e; exact absurd rfl (q2 n e)
    · rename_i m; exact absurd rfl (q3 m)
    · rfl
  · cases h

noncomputable def zeroB (ti : TI) (z : Option Value) : Bool :=
  (match ti.zero with
    | [] => Nat.blt 0 ti.size
    | _ :: _ => false) ||
  (match zeroV ti, z with
    | some a, some b => zeq a b && (ti.zero.all plainV && Nat.beq (lenL ti.zero) ti.size)
    | _, _ => false)
theorem zeroB_ok {ti : TI} {z : Option Value} (h : zeroB ti z = true) : (ti.zero = [] ∧ 0 < ti.size) ∨ ∃ y, zeroV ti = some y ∧ z = some y ∧ ti.zero.all plainV = true ∧ ti.zero.length = ti.size := by
  unfold zeroB at h
  rw [Bool.or_eq_true] at h
  rcases h with h | h
  · left
    split at h
    · rename_i hz; exact ⟨hz, nat_blt.1 h⟩
    · cases h
  · right
    split at h
    · rename_i a b ha
      simp only [Bool.and_eq_true] at h
      have h3 := nat_beq.1 h.2.2
      rw [lenL_is] at h3
      exact ⟨a, ha, by rw [zeq_ok h.1], h.2.1, h3⟩
    · cases h

noncomputable def ptrB (b : Bool) : TypeDesc → Bool
  | .pointer _ => b
  | _ => not b
/-- the type's method of that name is that function, the receiver as it stands -/
noncomputable def meth1 (P : Program) (t : Nat) (name : String) (f : Nat) : Bool := match P.info? t with
  | some i => match i.methods.find? (·.name == name) with
    | some m => match m.path.toList with
      | [] => match m.func with
        | some (g, b) => match P.underlying t with
          | some d => Nat.beq g f && ptrB b d
          | none => false
        | none => false
      | _ :: _ => false
    | none => false
  | none => false
theorem meth1_ok {P : Program} {t : Nat} {name : String} {f : Nat} (h : meth1 P t name f = true) (v : Value) (w : World) : (method (P.types.size + Made.depth) t v name).run P w = .ok (f, v) w := by
  unfold meth1 at h
  split at h
  · rename_i i hi
    split at h
    · rename_i m hm
      split at h
      · rename_i hp
        split at h
        · rename_i g b hg
          split at h
          · rename_i d hd
            rw [Bool.and_eq_true] at h
            have e1 := nat_beq.1 h.1
            subst e1
            have h2 := h.2
            show (method ((P.types.size + 99) + 1) t v name).run P w = _
            unfold method
            simp only [typeInfo, Sem.run_bind, run_program, Result.andThen_ok, hi, Sem.run_pure, hm, hp, follow, hg, receiverAt, underlying, hd]
            cases d with
            | pointer e =>
              have hb : b = true := h2
              subst hb
              simp only [Place.get, Sem.run_bind, Sem.run_pure, Result.andThen_ok]
            | _ =>
              have hb : b = false := by
                have h2 : (!b) = true := h2
                cases b with
                | true => cases h2
                | false => rfl
              subst hb
              simp only [Place.get, Sem.run_bind, Sem.run_pure, Result.andThen_ok]
          · cases h
        · cases h
      · cases h
    · cases h
  · cases h
noncomputable def methB (P : Program) (t : Nat) : List (String × Nat) → Bool
  | [] => true
  | x :: l => meth1 P t x.1 x.2 && methB P t l
theorem methB_ok {P : Program} {t : Nat} : ∀ {l : List (String × Nat)}, methB P t l = true → ∀ name f, findM name l = some f → ∀ v w, (method (P.types.size + Made.depth) t v name).run P w = .ok (f, v) w
  | [], _, name, f, h => by cases h
  | x :: l, hb, name, f, h => by
    have hb : (meth1 P t x.1 x.2 && methB P t l) = true := hb
    rw [Bool.and_eq_true] at hb
    unfold findM at h
    split at h
    · rename_i hn
      cases h
      rw [← eq_of_beq hn]
      exact fun v w => meth1_ok hb.1 v w
    · exact methB_ok hb.2 name f h

noncomputable def tyB (P : Program) (t : Nat) (ti : TI) : Bool := match P.info? t with
  | some i => match P.underlying t with
    | some d => Nat.beq i.size ti.size && (Nat.beq i.bytes ti.bytes && (zeroB ti i.zero && (kindB P ti.k d && (fineS P t && methB P t ti.ms))))
    | none => false
  | none => false
theorem tyB_ok {P : Program} (hd : 8 ≤ P.depth) {t : Nat} {ti : TI} (h : tyB P t ti = true) : TyOk P t ti := by
  unfold tyB at h
  split at h
  · rename_i i hi
    split at h
    · rename_i d hu
      simp only [Bool.and_eq_true] at h
      exact ⟨h.2.2.2.2.1, hd, ⟨i, hi, nat_beq.1 h.1, nat_beq.1 h.2.1, zeroB_ok h.2.2.1⟩, ⟨d, hu, kindB_ok h.2.2.2.1⟩, methB_ok h.2.2.2.2.2⟩
    · cases h
  · cases h
noncomputable def tyOB (P : Program) (t : Nat) : Option TI → Bool
  | some ti => tyB P t ti
  | none => true
noncomputable def tabB (P : Program) : TTy → (Nat → Nat) → Bool
  | .mt, _ => true
  | .nd ti l r, ix => tyOB P (ix 0) ti && (tabB P l (fun k => ix (Nat.succ (Nat.mul 2 k))) && tabB P r (fun k => ix (Nat.succ (Nat.succ (Nat.mul 2 k)))))
theorem tabB_get {P : Program} (hd : 8 ≤ P.depth) : ∀ {t : TTy} {ix : Nat → Nat}, tabB P t ix = true → ∀ i ti, t.get i = some ti → TyOk P (ix i) ti
  | .mt, ix, _, i, b, h => by cases h
  | .nd c l r, ix, hb, i, b, h => by
    have hb : (tyOB P (ix 0) c && (tabB P l (fun k => ix (Nat.succ (Nat.mul 2 k))) && tabB P r (fun k => ix (Nat.succ (Nat.succ (Nat.mul 2 k)))))) = true := hb
    simp only [Bool.and_eq_true] at hb
    cases i with
    | zero =>
      have h : c = some b := h
      subst h
      exact tyB_ok hd hb.1
    | succ k =>
      unfold TTy.get at h
      have e1 : Nat.mod k 2 = k % 2 := rfl
      have e2 : Nat.div k 2 = k / 2 := rfl
      rw [e1, e2] at h
      rcases Nat.mod_two_eq_zero_or_one k with hk | hk
      · rw [hk] at h
        have := tabB_get hd hb.2.1 (k / 2) b h
        have e : Nat.succ (Nat.mul 2 (k / 2)) = k + 1 := by show 2 * (k / 2) + 1 = k + 1; omega
        simp only [e] at this; exact this
      · rw [hk] at h
        have := tabB_get hd hb.2.2 (k / 2) b h
        have e : Nat.succ (Nat.succ (Nat.mul 2 (k / 2))) = k + 1 := by show 2 * (k / 2) + 1 + 1 = k + 1; omega
        simp only [e] at this; exact this
theorem tab_ok {P : Program} {ty : TTy} (hd : Nat.ble 8 P.depth = true) (h : tabB P ty (fun k => k) = true) : TabOk P ty := fun t ti ht => tabB_get (nat_ble.1 hd) h t ti ht
end Go.Proofs.Ytkafejncffinmaa

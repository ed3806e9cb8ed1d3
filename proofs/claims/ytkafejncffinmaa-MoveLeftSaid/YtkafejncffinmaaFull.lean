/-
  Which places of a tree are there; a next place can be set. Printed by program (genfull.py).
-/
import Derived.Test.YtkafejncffinmaaTrees
namespace Go.Proofs.Ytkafejncffinmaa
open Go

namespace VT
/-- is the place there? -/
def has : VT → Nat → Prop
  | .mt, _ => False
  | .nd _ _ _, 0 => True
  | .nd _ l r, k + 1 => if k % 2 = 0 then l.has (k / 2) else r.has (k / 2)
theorem has_succ (v : Value) (l r : VT) (k : Nat) : (VT.nd v l r).has (k + 1) = if k % 2 = 0 then l.has (k / 2) else r.has (k / 2) := by rw [has]
theorem set_some : ∀ (t : VT) (i : Nat) (x : Value), (∀ j, j < i → t.has j) → ∃ t', t.set i x = some t'
  | .mt, 0, x, _ => ⟨_, rfl⟩
  | .mt, i + 1, x, h => (h 0 (Nat.succ_pos i)).elim
  | .nd v l r, 0, x, _ => ⟨_, rfl⟩
  | .nd v l r, k + 1, x, h => by
    rw [set_nd_succ]
    by_cases hk : k % 2 = 0
    · rw [if_pos hk]
      obtain ⟨l', hl⟩ := set_some l (k / 2) x fun j hj => by
        have := h (2 * j + 1) (by omega)
        rw [has_succ, if_pos (by omega)] at this
        have e : 2 * j / 2 = j := by omega
        rwa [e] at this
      rw [hl]; exact ⟨_, rfl⟩
    · rw [if_neg hk]
      obtain ⟨r', hr⟩ := set_some r (k / 2) x fun j hj => by
        have := h (2 * j + 1 + 1) (by omega)
        rw [has_succ, if_neg (by omega)] at this
        have e : (2 * j + 1) / 2 = j := by omega
        rwa [e] at this
      rw [hr]; exact ⟨_, rfl⟩
theorem set_has : ∀ (t : VT) (i : Nat) (x : Value) (t' : VT), t.set i x = some t' → ∀ j, (j = i ∨ t.has j) → t'.has j
  | .mt, 0, x, t', h, j, hj => by
    obtain rfl : VT.nd x .mt .mt = t' := Option.some.inj h
    rcases hj with rfl | hj
    · exact trivial
    · exact hj.elim
  | .mt, i + 1, x, t', h, j, hj => by cases h
  | .nd v l r, 0, x, t', h, j, hj => by
    obtain rfl : VT.nd x l r = t' := Option.some.inj h
    cases j with
    | zero => exact trivial
    | succ j =>
      rcases hj with hj | hj
      · cases hj
      · rw [has_succ] at hj ⊢; exact hj
  | .nd v l r, i + 1, x, t', h, j, hj => by
    rw [set_nd_succ] at h
    split at h
    · rename_i h0
      cases hs : l.set (i / 2) x with
      | none => rw [hs] at h; cases h
      | some l' =>
        rw [hs] at h
        obtain rfl : VT.nd v l' r = t' := Option.some.inj h
        cases j with
        | zero => exact trivial
        | succ j =>
          rw [has_succ]
          split
          · rename_i h1
            refine set_has l _ x l' hs _ ?_
            rcases hj with hj | hj
            · left; have : j = i := by omega
              rw [this]
            · right; rw [has_succ, if_pos h1] at hj; exact hj
          · rename_i h1
            rcases hj with hj | hj
            · have : j = i := by omega
              exact absurd (this ▸ h0) h1
            · rw [has_succ, if_neg h1] at hj; exact hj
    · rename_i h0
      cases hs : r.set (i / 2) x with
      | none => rw [hs] at h; cases h
      | some r' =>
        rw [hs] at h
        obtain rfl : VT.nd v l r' = t' := Option.some.inj h
        cases j with
        | zero => exact trivial
        | succ j =>
          rw [has_succ]
          split
          · rename_i h1
            rcases hj with hj | hj
            · have : j = i := by omega
              exact absurd (this ▸ h1) h0
            · rw [has_succ, if_pos h1] at hj; exact hj
          · rename_i h1
            refine set_has r _ x r' hs _ ?_
            rcases hj with hj | hj
            · left; have : j = i := by omega
              rw [this]
            · right; rw [has_succ, if_neg h1] at hj; exact hj
/-- set, where that can be -/
noncomputable def lay (t : VT) (i : Nat) (x : Value) : VT := (t.set i x).getD t
theorem lay_is {t : VT} {i : Nat} {x : Value} (h : ∀ j, j < i → t.has j) : t.set i x = some (t.lay i x) := by
  obtain ⟨t', ht⟩ := set_some t i x h
  unfold lay; rw [ht]; rfl
theorem lay_get {t : VT} {i : Nat} {x : Value} (h : ∀ j, j < i → t.has j) (j : Nat) : (t.lay i x).get j = if j = i then x else t.get j := get_set _ _ _ _ (lay_is h) j
theorem lay_has {t : VT} {i : Nat} {x : Value} (h : ∀ j, j < i → t.has j) (j : Nat) (hj : j = i ∨ t.has j) : (t.lay i x).has j := set_has _ _ _ _ (lay_is h) j hj
end VT

namespace BT
/-- is the place there? -/
def has : BT → Nat → Prop
  | .mt, _ => False
  | .nd _ _ _, 0 => True
  | .nd _ l r, k + 1 => if k % 2 = 0 then l.has (k / 2) else r.has (k / 2)
theorem has_succ (v : Blk) (l r : BT) (k : Nat) : (BT.nd v l r).has (k + 1) = if k % 2 = 0 then l.has (k / 2) else r.has (k / 2) := by rw [has]
theorem set_some : ∀ (t : BT) (i : Nat) (x : Blk), (∀ j, j < i → t.has j) → ∃ t', t.set i x = some t'
  | .mt, 0, x, _ => ⟨_, rfl⟩
  | .mt, i + 1, x, h => (h 0 (Nat.succ_pos i)).elim
  | .nd v l r, 0, x, _ => ⟨_, rfl⟩
  | .nd v l r, k + 1, x, h => by
    rw [set_nd_succ]
    by_cases hk : k % 2 = 0
    · rw [if_pos hk]
      obtain ⟨l', hl⟩ := set_some l (k / 2) x fun j hj => by
        have := h (2 * j + 1) (by omega)
        rw [has_succ, if_pos (by omega)] at this
        have e : 2 * j / 2 = j := by omega
        rwa [e] at this
      rw [hl]; exact ⟨_, rfl⟩
    · rw [if_neg hk]
      obtain ⟨r', hr⟩ := set_some r (k / 2) x fun j hj => by
        have := h (2 * j + 1 + 1) (by omega)
        rw [has_succ, if_neg (by omega)] at this
        have e : (2 * j + 1) / 2 = j := by omega
        rwa [e] at this
      rw [hr]; exact ⟨_, rfl⟩
theorem set_has : ∀ (t : BT) (i : Nat) (x : Blk) (t' : BT), t.set i x = some t' → ∀ j, (j = i ∨ t.has j) → t'.has j
  | .mt, 0, x, t', h, j, hj => by
    obtain rfl : BT.nd x .mt .mt = t' := Option.some.inj h
    rcases hj with rfl | hj
    · exact trivial
    · exact hj.elim
  | .mt, i + 1, x, t', h, j, hj => by cases h
  | .nd v l r, 0, x, t', h, j, hj => by
    obtain rfl : BT.nd x l r = t' := Option.some.inj h
    cases j with
    | zero => exact trivial
    | succ j =>
      rcases hj with hj | hj
      · cases hj
      · rw [has_succ] at hj ⊢; exact hj
  | .nd v l r, i + 1, x, t', h, j, hj => by
    rw [set_nd_succ] at h
    split at h
    · rename_i h0
      cases hs : l.set (i / 2) x with
      | none => rw [hs] at h; cases h
      | some l' =>
        rw [hs] at h
        obtain rfl : BT.nd v l' r = t' := Option.some.inj h
        cases j with
        | zero => exact trivial
        | succ j =>
          rw [has_succ]
          split
          · rename_i h1
            refine set_has l _ x l' hs _ ?_
            rcases hj with hj | hj
            · left; have : j = i := by omega
              rw [this]
            · right; rw [has_succ, if_pos h1] at hj; exact hj
          · rename_i h1
            rcases hj with hj | hj
            · have : j = i := by omega
              exact absurd (this ▸ h0) h1
            · rw [has_succ, if_neg h1] at hj; exact hj
    · rename_i h0
      cases hs : r.set (i / 2) x with
      | none => rw [hs] at h; cases h
      | some r' =>
        rw [hs] at h
        obtain rfl : BT.nd v l r' = t' := Option.some.inj h
        cases j with
        | zero => exact trivial
        | succ j =>
          rw [has_succ]
          split
          · rename_i h1
            rcases hj with hj | hj
            · have : j = i := by omega
              exact absurd (this ▸ h1) h0
            · rw [has_succ, if_pos h1] at hj; exact hj
          · rename_i h1
            refine set_has r _ x r' hs _ ?_
            rcases hj with hj | hj
            · left; have : j = i := by omega
              rw [this]
            · right; rw [has_succ, if_neg h1] at hj; exact hj
/-- set, where that can be -/
noncomputable def lay (t : BT) (i : Nat) (x : Blk) : BT := (t.set i x).getD t
theorem lay_is {t : BT} {i : Nat} {x : Blk} (h : ∀ j, j < i → t.has j) : t.set i x = some (t.lay i x) := by
  obtain ⟨t', ht⟩ := set_some t i x h
  unfold lay; rw [ht]; rfl
theorem lay_get {t : BT} {i : Nat} {x : Blk} (h : ∀ j, j < i → t.has j) (j : Nat) : (t.lay i x).get j = if j = i then x else t.get j := get_set _ _ _ _ (lay_is h) j
theorem lay_has {t : BT} {i : Nat} {x : Blk} (h : ∀ j, j < i → t.has j) (j : Nat) (hj : j = i ∨ t.has j) : (t.lay i x).has j := set_has _ _ _ _ (lay_is h) j hj
end BT
end Go.Proofs.Ytkafejncffinmaa

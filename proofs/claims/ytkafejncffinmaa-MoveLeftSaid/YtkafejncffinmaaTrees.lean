/-
  The laws of trees and of slots. Printed by program (genrel.py).
-/
import Derived.Test.YtkafejncffinmaaEnv
namespace Go.Proofs.Ytkafejncffinmaa
open Go

namespace VT
theorem get_nd_succ (v : Value) (l r : VT) (k : Nat) : (VT.nd v l r).get (k + 1) = if k % 2 = 0 then l.get (k / 2) else r.get (k / 2) := by
  show getR l.get r.get k = _
  unfold getR
  have e : Nat.mod k 2 = k % 2 := rfl
  have e2 : Nat.div k 2 = k / 2 := rfl
  rw [e, e2]
  rcases Nat.mod_two_eq_zero_or_one k with h | h <;> rw [h] <;> rfl
theorem set_nd_succ (v : Value) (l r : VT) (k : Nat) (x : Value) : (VT.nd v l r).set (k + 1) x = if k % 2 = 0 then (l.set (k / 2) x).map (fun l' => .nd v l' r) else (r.set (k / 2) x).map (fun r' => .nd v l r') := by
  show setK v l r l.set r.set x k = _
  unfold setK
  have e : Nat.mod k 2 = k % 2 := rfl
  have e2 : Nat.div k 2 = k / 2 := rfl
  rw [e, e2]
  rcases Nat.mod_two_eq_zero_or_one k with h | h <;> rw [h]
  · show setL v r (l.set (k / 2) x) = _
    cases l.set (k / 2) x <;> rfl
  · show setR v l (r.set (k / 2) x) = _
    cases r.set (k / 2) x <;> rfl
theorem get_set : ∀ (t : VT) (i : Nat) (x : Value) (t' : VT), t.set i x = some t' → ∀ j, t'.get j = if j = i then x else t.get j
  | .mt, 0, x, t', h, j => by
    obtain rfl : VT.nd x .mt .mt = t' := Option.some.inj h
    cases j with
    | zero => rfl
    | succ j => rw [get_nd_succ]; simp [get]
  | .mt, i + 1, x, t', h, j => by cases h
  | .nd v l r, 0, x, t', h, j => by
    obtain rfl : VT.nd x l r = t' := Option.some.inj h
    cases j with
    | zero => rfl
    | succ j => rw [get_nd_succ, get_nd_succ]; simp
  | .nd v l r, i + 1, x, t', h, j => by
    rw [set_nd_succ] at h
    split at h
    · rename_i h0
      cases hs : l.set (i / 2) x with
      | none => rw [hs] at h; cases h
      | some l' =>
        rw [hs] at h
        obtain rfl : VT.nd v l' r = t' := Option.some.inj h
        cases j with
        | zero => rfl
        | succ j =>
          rw [get_nd_succ, get_nd_succ, get_set l _ x l' hs]
          split
          · rename_i h1
            by_cases e : j / 2 = i / 2
            · have : j = i := by omega
              simp [this]
            · have : ¬ j = i := by omega
              simp [e, this]
          · have : ¬ j = i := by omega
            simp [this]
    · rename_i h0
      cases hs : r.set (i / 2) x with
      | none => rw [hs] at h; cases h
      | some r' =>
        rw [hs] at h
        obtain rfl : VT.nd v l r' = t' := Option.some.inj h
        cases j with
        | zero => rfl
        | succ j =>
          rw [get_nd_succ, get_nd_succ, get_set r _ x r' hs]
          split
          · have : ¬ j = i := by omega
            simp [this]
          · rename_i h1
            by_cases e : j / 2 = i / 2
            · have : j = i := by omega
              simp [this]
            · have : ¬ j = i := by omega
              simp [e, this]
end VT

namespace BT
theorem get_nd_succ (v : Blk) (l r : BT) (k : Nat) : (BT.nd v l r).get (k + 1) = if k % 2 = 0 then l.get (k / 2) else r.get (k / 2) := by
  show getR l.get r.get k = _
  unfold getR
  have e : Nat.mod k 2 = k % 2 := rfl
  have e2 : Nat.div k 2 = k / 2 := rfl
  rw [e, e2]
  rcases Nat.mod_two_eq_zero_or_one k with h | h <;> rw [h] <;> rfl
theorem set_nd_succ (v : Blk) (l r : BT) (k : Nat) (x : Blk) : (BT.nd v l r).set (k + 1) x = if k % 2 = 0 then (l.set (k / 2) x).map (fun l' => .nd v l' r) else (r.set (k / 2) x).map (fun r' => .nd v l r') := by
  show setK v l r l.set r.set x k = _
  unfold setK
  have e : Nat.mod k 2 = k % 2 := rfl
  have e2 : Nat.div k 2 = k / 2 := rfl
  rw [e, e2]
  rcases Nat.mod_two_eq_zero_or_one k with h | h <;> rw [h]
  · show setL v r (l.set (k / 2) x) = _
    cases l.set (k / 2) x <;> rfl
  · show setR v l (r.set (k / 2) x) = _
    cases r.set (k / 2) x <;> rfl
theorem get_set : ∀ (t : BT) (i : Nat) (x : Blk) (t' : BT), t.set i x = some t' → ∀ j, t'.get j = if j = i then x else t.get j
  | .mt, 0, x, t', h, j => by
    obtain rfl : BT.nd x .mt .mt = t' := Option.some.inj h
    cases j with
    | zero => rfl
    | succ j => rw [get_nd_succ]; simp [get]
  | .mt, i + 1, x, t', h, j => by cases h
  | .nd v l r, 0, x, t', h, j => by
    obtain rfl : BT.nd x l r = t' := Option.some.inj h
    cases j with
    | zero => rfl
    | succ j => rw [get_nd_succ, get_nd_succ]; simp
  | .nd v l r, i + 1, x, t', h, j => by
    rw [set_nd_succ] at h
    split at h
    · rename_i h0
      cases hs : l.set (i / 2) x with
      | none => rw [hs] at h; cases h
      | some l' =>
        rw [hs] at h
        obtain rfl : BT.nd v l' r = t' := Option.some.inj h
        cases j with
        | zero => rfl
        | succ j =>
          rw [get_nd_succ, get_nd_succ, get_set l _ x l' hs]
          split
          · rename_i h1
            by_cases e : j / 2 = i / 2
            · have : j = i := by omega
              simp [this]
            · have : ¬ j = i := by omega
              simp [e, this]
          · have : ¬ j = i := by omega
            simp [this]
    · rename_i h0
      cases hs : r.set (i / 2) x with
      | none => rw [hs] at h; cases h
      | some r' =>
        rw [hs] at h
        obtain rfl : BT.nd v l r' = t' := Option.some.inj h
        cases j with
        | zero => rfl
        | succ j =>
          rw [get_nd_succ, get_nd_succ, get_set r _ x r' hs]
          split
          · have : ¬ j = i := by omega
            simp [this]
          · rename_i h1
            by_cases e : j / 2 = i / 2
            · have : j = i := by omega
              simp [this]
            · have : ¬ j = i := by omega
              simp [e, this]
end BT

def AllB (P : Nat → Prop) : Nat → Prop
  | 0 => True
  | Nat.succ n => P n ∧ AllB P n
theorem AllB.at {P : Nat → Prop} : ∀ {n : Nat}, AllB P n → ∀ i, i < n → P i
  | 0, _, i, h => absurd h (Nat.not_lt_zero i)
  | n + 1, H, i, h => by
    rcases Nat.lt_or_ge i n with hl | hg
    · exact AllB.at H.2 i hl
    · have : i = n := by omega
      exact this ▸ H.1
namespace V16
theorem get_set (y : Value) (v : V16) : ∀ i j, i < 16 → j < 16 → (set y v i).get j = if j = i then y else v.get j := by
  have H : AllB (fun i => AllB (fun j => (set y v i).get j = if j = i then y else v.get j) 16) 16 := by
    refine ⟨?_, ?_⟩; rotate_left; refine ⟨?_, ?_⟩; rotate_left; refine ⟨?_, ?_⟩; rotate_left; refine ⟨?_, ?_⟩; rotate_left; refine ⟨?_, ?_⟩; rotate_left; refine ⟨?_, ?_⟩; rotate_left; refine ⟨?_, ?_⟩; rotate_left; refine ⟨?_, ?_⟩; rotate_left; refine ⟨?_, ?_⟩; rotate_left; refine ⟨?_, ?_⟩; rotate_left; refine ⟨?_, ?_⟩; rotate_left; refine ⟨?_, ?_⟩; rotate_left; refine ⟨?_, ?_⟩; rotate_left; refine ⟨?_, ?_⟩; rotate_left; refine ⟨?_, ?_⟩; rotate_left; refine ⟨?_, ?_⟩; rotate_left; exact trivial
    all_goals repeat' (first | exact trivial | exact rfl | refine ⟨rfl, ?_⟩)
  exact fun i j hi hj => H.at i hi |>.at j hj
end V16
namespace E20
theorem get_set (y : V16) (v : E20) : ∀ i j, i < 20 → j < 20 → (set y v i).get j = if j = i then y else v.get j := by
  have H : AllB (fun i => AllB (fun j => (set y v i).get j = if j = i then y else v.get j) 20) 20 := by
    refine ⟨?_, ?_⟩; rotate_left; refine ⟨?_, ?_⟩; rotate_left; refine ⟨?_, ?_⟩; rotate_left; refine ⟨?_, ?_⟩; rotate_left; refine ⟨?_, ?_⟩; rotate_left; refine ⟨?_, ?_⟩; rotate_left; refine ⟨?_, ?_⟩; rotate_left; refine ⟨?_, ?_⟩; rotate_left; refine ⟨?_, ?_⟩; rotate_left; refine ⟨?_, ?_⟩; rotate_left; refine ⟨?_, ?_⟩; rotate_left; refine ⟨?_, ?_⟩; rotate_left; refine ⟨?_, ?_⟩; rotate_left; refine ⟨?_, ?_⟩; rotate_left; refine ⟨?_, ?_⟩; rotate_left; refine ⟨?_, ?_⟩; rotate_left; refine ⟨?_, ?_⟩; rotate_left; refine ⟨?_, ?_⟩; rotate_left; refine ⟨?_, ?_⟩; rotate_left; refine ⟨?_, ?_⟩; rotate_left; exact trivial
    all_goals repeat' (first | exact trivial | exact rfl | refine ⟨rfl, ?_⟩)
  exact fun i j hi hj => H.at i hi |>.at j hj
end E20

theorem Env.get_set (y : Value) (e : Env) (i j : Nat) (hi : i < 320) (hj : j < 320) : (Env.set i y e).get j = if j = i then y else e.get j := by
  unfold Env.set Env.get
  rw [E20.get_set _ _ _ _ (by omega) (by omega)]
  by_cases h : j / 16 = i / 16
  · rw [if_pos h, V16.get_set _ _ _ _ (by omega) (by omega)]
    by_cases h2 : j = i
    · rw [if_pos h2, if_pos (by rw [h2])]
    · rw [if_neg h2, if_neg (by omega), h]
  · rw [if_neg h, if_neg (by rintro rfl; exact h rfl)]
set_option maxRecDepth 100000 in
theorem slotG_is (i : Nat) (h : i < 320) (e : Env) : slotG i e = Env.get e i := by
  have H : AllB (fun i => slotG i e = Env.get e i) 320 := by
    repeat' (first | exact trivial | refine ⟨rfl, ?_⟩)
  exact H.at i h
set_option maxRecDepth 100000 in
theorem slotT_is (i : Nat) (h : i < 320) (k : Env → X) (y : Value) (e : Env) : slotT i k y e = k (Env.set i y e) := by
  have H : AllB (fun i => slotT i k y e = k (Env.set i y e)) 320 := by
    repeat' (first | exact trivial | refine ⟨rfl, ?_⟩)
  exact H.at i h
end Go.Proofs.Ytkafejncffinmaa

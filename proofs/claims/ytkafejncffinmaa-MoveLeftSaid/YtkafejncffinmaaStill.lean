/-
  Operations that leave the machine's heap as it is, and look at its blocks alone.
-/
import Derived.Test.YtkafejncffinmaaOne
set_option linter.unusedSimpArgs false
set_option linter.unusedVariables false
namespace Go.Proofs.Ytkafejncffinmaa
open Go

def lift (h : Hp) : R → R
  | .ok v _ => .ok v h
  | .no => .no
/-- a piece that leaves the heap as it is, and looks at its blocks alone -/
def Kr (g : Hp → R) : Prop := ∀ h h2 : Hp, h2.bl = h.bl → g h2 = lift h2 (g h)
def Kp (g : OpF) : Prop := ∀ F e, Kr (g F e)

theorem Kr.same {g : Hp → R} (k : Kr g) {h h' : Hp} {v : Value} (hr : g h = .ok v h') : h' = h := by
  have := k h h rfl
  rw [hr] at this
  have : (R.ok v h') = .ok v h := this
  cases this; rfl
theorem Kr.at {g : Hp → R} (k : Kr g) {h h' : Hp} {v : Value} (hr : g h = .ok v h') (h2 : Hp) (hb : h2.bl = h.bl) : g h2 = .ok v h2 := by
  rw [k h h2 hb, hr]; rfl

theorem Kr.no : Kr fun _ => .no := fun _ _ _ => rfl
theorem Kr.ok (v : Value) : Kr fun h => .ok v h := fun _ _ _ => rfl
theorem Kr.bif {c : Bool} {a b : Hp → R} (ka : Kr a) (kb : Kr b) : Kr fun h => bif c then a h else b h := by
  cases c
  · exact kb
  · exact ka
theorem Kr.forceV {v : Value} {k : Value → Hp → R} (hk : ∀ v, Kr (k v)) : Kr fun h => forceV v fun v => k v h := by
  intro h h2 hb; simp only [forceV_is]; exact hk v h h2 hb
theorem Kr.forceL {v : List Value} {k : List Value → Hp → R} (hk : ∀ v, Kr (k v)) : Kr fun h => forceL v fun v => k v h := by
  intro h h2 hb; simp only [forceL_is]; exact hk v h h2 hb
theorem Kr.forceN {v : Nat} {k : Nat → Hp → R} (hk : ∀ v, Kr (k v)) : Kr fun h => forceN v fun v => k v h := by
  intro h h2 hb; simp only [forceN_is]; exact hk v h h2 hb
theorem Kr.forceI {v : Int} {k : Int → Hp → R} (hk : ∀ v, Kr (k v)) : Kr fun h => forceI v fun v => k v h := by
  intro h h2 hb; simp only [forceI_is]; exact hk v h h2 hb
theorem Kr.okI (k : IntKind) (n : Int) : Kr fun h => okI k n h := fun h h2 _ => by simp only [okI_is]; rfl
theorem Kr.moveR (v : Value) : Kr fun h => moveR v h := fun h h2 _ => by simp only [moveR_is]; rfl
theorem Kr.okB (b : Bool) : Kr fun h => okB b h := by cases b <;> exact .ok _
theorem Kr.row {b : Nat} {k : VT → Nat → Nat → Hp → R} {z : Hp → R} (hk : ∀ c s e, Kr (k c s e)) (hz : Kr z) : Kr fun h => match rowOf h b with
    | .ok c s e => k c s e h
    | .no => z h := by
  intro h h2 hb
  have : rowOf h2 b = rowOf h b := by unfold rowOf; rw [hb]
  simp only [this]
  cases rowOf h b with
  | ok c s e => exact hk c s e h h2 hb
  | no => exact hz h h2 hb
theorem Kr.ents {b : Nat} {k : List Ent → Nat → Hp → R} {z : Hp → R} (hk : ∀ c s, Kr (k c s)) (hz : Kr z) : Kr fun h => match entsOf h b with
    | .ok c s => k c s h
    | .no => z h := by
  intro h h2 hb
  have : entsOf h2 b = entsOf h b := by unfold entsOf; rw [hb]
  simp only [this]
  cases entsOf h b with
  | ok c s => exact hk c s h h2 hb
  | no => exact hz h h2 hb

theorem getN_kr {c : VT} {off : Nat} {k : List Value → Hp → R} (hk : ∀ l, Kr (k l)) (n : Nat) (acc : List Value) : Kr fun h => getN c off (fun l => k l h) n acc := by
  intro h h2 hb; simp only [getN_is]; exact hk _ h h2 hb
theorem bound_kr {e : Env} {x : Option O} {d y : Nat} {k : Nat → Hp → R} (hk : ∀ n, Kr (k n)) : Kr fun h => bound e x d y fun n => k n h := by
  unfold bound
  cases x with
  | none => exact hk d
  | some o =>
    simp only
    cases natV (o e) with
    | no => exact .no
    | ok n => exact .bif (hk n) .no
theorem bounds_kr {e : Env} {l c : Nat} {lo hi mx : Option O} {k : Nat → Nat → Nat → Hp → R} (hk : ∀ a b c, Kr (k a b c)) : Kr fun h => bounds e l c lo hi mx fun a b c => k a b c h := by
  unfold bounds
  cases mx with
  | none => exact bound_kr (k := fun hh h => bound e lo 0 hh fun l => k l hh c h) fun hh => bound_kr (k := fun l h => k l hh c h) fun l => hk l hh c
  | some m =>
    refine bound_kr (k := fun m h => _) fun m => ?_
    cases hi with
    | none => exact .no
    | some hh => exact bound_kr (k := fun hh h => bound e lo 0 hh fun l => k l hh m h) fun hh => bound_kr (k := fun l h => k l hh m h) fun l => hk l hh m
theorem sliceOf_kr {a : Option Addr} {s l hh m : Nat} : Kr fun h => sliceOf a s l hh m h := by
  unfold sliceOf
  refine .forceN (k := fun n h => _) fun n => .forceN (k := fun c h => _) fun c => ?_
  cases Nat.beq m l with
  | true => exact .ok _
  | false =>
    cases a with
    | none => exact .ok _
    | some a =>
      simp only
      cases Nat.mul l s with
      | zero => exact .ok _
      | succ m => exact .forceN (k := fun o h => _) fun o => .ok _
theorem partL_kr {g : Bool} {s : Nat} {cs : List Value} {off : Nat} : Kr fun h => partL g s cs off h := by
  unfold partL
  cases g with
  | true => exact .forceL (k := fun l h => _) fun l => .ok _
  | false =>
    simp only
    cases nth cs off with
    | none => exact .no
    | some v => exact .forceV (k := fun l h => _) fun l => .ok _
theorem fillL_kr {e : Env} {k : List Value → Hp → R} (hk : ∀ l, Kr (k l)) : ∀ (ps : List (Nat × Nat × O)) (cs : List Value), Kr fun h => fillL cs e (fun l => k l h) ps
  | [], cs => by
    unfold fillL; exact .forceL (k := k) hk
  | (off, size, x) :: ps, cs => by
    unfold fillL
    exact .forceV (k := fun v h => _) fun v => .bif (.bif (.bif (fillL_kr hk ps _) .no) .no) .no
theorem lookOut_kr {ok : Bool} {v : Value} {b : Bool} : Kr fun h => lookOut ok v b h := by
  unfold lookOut
  cases ok
  · exact .forceV (k := fun v h => _) fun v => .ok _
  · exact .forceV (k := fun v h => _) fun v => .ok _
theorem ptrTo_kr {a : Addr} {n : Nat} : Kr fun h => ptrTo a n h := .forceN (k := fun o h => _) fun o => .ok _
theorem srcCells_kr {size : Nat} {v : Value} {n : Nat} {k : List Value → Hp → R} (hk : ∀ l, Kr (k l)) : Kr fun h => srcCells h size v n fun l => k l h := by
  unfold srcCells
  cases v with
  | slice a l c =>
    cases a with
    | none => exact hk []
    | some a => exact .row (k := fun c s _ h => bif Nat.ble (Nat.add a.off (Nat.mul n size)) s then getN c a.off (fun l => k l h) (Nat.mul n size) [] else .no) (z := fun _ => .no) (fun c s _ => .bif (getN_kr hk _ _) .no) .no
  | string s => exact .bif (hk _) .no
  | _ => exact .no
end Go.Proofs.Ytkafejncffinmaa

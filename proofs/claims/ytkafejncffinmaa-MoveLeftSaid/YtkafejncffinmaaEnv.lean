/-
  The records in which the slots of a frame stand, and trees of places. Printed by program (genmach.py).
-/
import GoSem.Claims
namespace Go.Proofs.Ytkafejncffinmaa
open Go

def noRes : Value := .tuple #[]
/-- 16 side by side -/
structure V16 where
  mk ::
  a0 : Value
  a1 : Value
  a2 : Value
  a3 : Value
  a4 : Value
  a5 : Value
  a6 : Value
  a7 : Value
  a8 : Value
  a9 : Value
  a10 : Value
  a11 : Value
  a12 : Value
  a13 : Value
  a14 : Value
  a15 : Value
namespace V16
noncomputable def s0 (y : Value) (v : V16) : V16 := (V16.rec (motive := fun _ => Value → V16) (fun _ x1 x2 x3 x4 x5 x6 x7 x8 x9 x10 x11 x12 x13 x14 x15 y => .mk y x1 x2 x3 x4 x5 x6 x7 x8 x9 x10 x11 x12 x13 x14 x15) v : Value → V16) y
noncomputable def s1 (y : Value) (v : V16) : V16 := (V16.rec (motive := fun _ => Value → V16) (fun x0 _ x2 x3 x4 x5 x6 x7 x8 x9 x10 x11 x12 x13 x14 x15 y => .mk x0 y x2 x3 x4 x5 x6 x7 x8 x9 x10 x11 x12 x13 x14 x15) v : Value → V16) y
noncomputable def s2 (y : Value) (v : V16) : V16 := (V16.rec (motive := fun _ => Value → V16) (fun x0 x1 _ x3 x4 x5 x6 x7 x8 x9 x10 x11 x12 x13 x14 x15 y => .mk x0 x1 y x3 x4 x5 x6 x7 x8 x9 x10 x11 x12 x13 x14 x15) v : Value → V16) y
noncomputable def s3 (y : Value) (v : V16) : V16 := (V16.rec (motive := fun _ => Value → V16) (fun x0 x1 x2 _ x4 x5 x6 x7 x8 x9 x10 x11 x12 x13 x14 x15 y => .mk x0 x1 x2 y x4 x5 x6 x7 x8 x9 x10 x11 x12 x13 x14 x15) v : Value → V16) y
noncomputable def s4 (y : Value) (v : V16) : V16 := (V16.rec (motive := fun _ => Value → V16) (fun x0 x1 x2 x3 _ x5 x6 x7 x8 x9 x10 x11 x12 x13 x14 x15 y => .mk x0 x1 x2 x3 y x5 x6 x7 x8 x9 x10 x11 x12 x13 x14 x15) v : Value → V16) y
noncomputable def s5 (y : Value) (v : V16) : V16 := (V16.rec (motive := fun _ => Value → V16) (fun x0 x1 x2 x3 x4 _ x6 x7 x8 x9 x10 x11 x12 x13 x14 x15 y => .mk x0 x1 x2 x3 x4 y x6 x7 x8 x9 x10 x11 x12 x13 x14 x15) v : Value → V16) y
noncomputable def s6 (y : Value) (v : V16) : V16 := (V16.rec (motive := fun _ => Value → V16) (fun x0 x1 x2 x3 x4 x5 _ x7 x8 x9 x10 x11 x12 x13 x14 x15 y => .mk x0 x1 x2 x3 x4 x5 y x7 x8 x9 x10 x11 x12 x13 x14 x15) v : Value → V16) y
noncomputable def s7 (y : Value) (v : V16) : V16 := (V16.rec (motive := fun _ => Value → V16) (fun x0 x1 x2 x3 x4 x5 x6 _ x8 x9 x10 x11 x12 x13 x14 x15 y => .mk x0 x1 x2 x3 x4 x5 x6 y x8 x9 x10 x11 x12 x13 x14 x15) v : Value → V16) y
noncomputable def s8 (y : Value) (v : V16) : V16 := (V16.rec (motive := fun _ => Value → V16) (fun x0 x1 x2 x3 x4 x5 x6 x7 _ x9 x10 x11 x12 x13 x14 x15 y => .mk x0 x1 x2 x3 x4 x5 x6 x7 y x9 x10 x11 x12 x13 x14 x15) v : Value → V16) y
noncomputable def s9 (y : Value) (v : V16) : V16 := (V16.rec (motive := fun _ => Value → V16) (fun x0 x1 x2 x3 x4 x5 x6 x7 x8 _ x10 x11 x12 x13 x14 x15 y => .mk x0 x1 x2 x3 x4 x5 x6 x7 x8 y x10 x11 x12 x13 x14 x15) v : Value → V16) y
noncomputable def s10 (y : Value) (v : V16) : V16 := (V16.rec (motive := fun _ => Value → V16) (fun x0 x1 x2 x3 x4 x5 x6 x7 x8 x9 _ x11 x12 x13 x14 x15 y => .mk x0 x1 x2 x3 x4 x5 x6 x7 x8 x9 y x11 x12 x13 x14 x15) v : Value → V16) y
noncomputable def s11 (y : Value) (v : V16) : V16 := (V16.rec (motive := fun _ => Value → V16) (fun x0 x1 x2 x3 x4 x5 x6 x7 x8 x9 x10 _ x12 x13 x14 x15 y => .mk x0 x1 x2 x3 x4 x5 x6 x7 x8 x9 x10 y x12 x13 x14 x15) v : Value → V16) y
noncomputable def s12 (y : Value) (v : V16) : V16 := (V16.rec (motive := fun _ => Value → V16) (fun x0 x1 x2 x3 x4 x5 x6 x7 x8 x9 x10 x11 _ x13 x14 x15 y => .mk x0 x1 x2 x3 x4 x5 x6 x7 x8 x9 x10 x11 y x13 x14 x15) v : Value → V16) y
noncomputable def s13 (y : Value) (v : V16) : V16 := (V16.rec (motive := fun _ => Value → V16) (fun x0 x1 x2 x3 x4 x5 x6 x7 x8 x9 x10 x11 x12 _ x14 x15 y => .mk x0 x1 x2 x3 x4 x5 x6 x7 x8 x9 x10 x11 x12 y x14 x15) v : Value → V16) y
noncomputable def s14 (y : Value) (v : V16) : V16 := (V16.rec (motive := fun _ => Value → V16) (fun x0 x1 x2 x3 x4 x5 x6 x7 x8 x9 x10 x11 x12 x13 _ x15 y => .mk x0 x1 x2 x3 x4 x5 x6 x7 x8 x9 x10 x11 x12 x13 y x15) v : Value → V16) y
noncomputable def s15 (y : Value) (v : V16) : V16 := (V16.rec (motive := fun _ => Value → V16) (fun x0 x1 x2 x3 x4 x5 x6 x7 x8 x9 x10 x11 x12 x13 x14 _ y => .mk x0 x1 x2 x3 x4 x5 x6 x7 x8 x9 x10 x11 x12 x13 x14 y) v : Value → V16) y
noncomputable def get (v : V16) : Nat → Value
  | 0 => v.a0
  | 1 => v.a1
  | 2 => v.a2
  | 3 => v.a3
  | 4 => v.a4
  | 5 => v.a5
  | 6 => v.a6
  | 7 => v.a7
  | 8 => v.a8
  | 9 => v.a9
  | 10 => v.a10
  | 11 => v.a11
  | 12 => v.a12
  | 13 => v.a13
  | 14 => v.a14
  | _ => v.a15
noncomputable def set (y : Value) (v : V16) : Nat → V16
  | 0 => s0 y v
  | 1 => s1 y v
  | 2 => s2 y v
  | 3 => s3 y v
  | 4 => s4 y v
  | 5 => s5 y v
  | 6 => s6 y v
  | 7 => s7 y v
  | 8 => s8 y v
  | 9 => s9 y v
  | 10 => s10 y v
  | 11 => s11 y v
  | 12 => s12 y v
  | 13 => s13 y v
  | 14 => s14 y v
  | _ => s15 y v
end V16
/-- 20 side by side -/
structure E20 where
  mk ::
  a0 : V16
  a1 : V16
  a2 : V16
  a3 : V16
  a4 : V16
  a5 : V16
  a6 : V16
  a7 : V16
  a8 : V16
  a9 : V16
  a10 : V16
  a11 : V16
  a12 : V16
  a13 : V16
  a14 : V16
  a15 : V16
  a16 : V16
  a17 : V16
  a18 : V16
  a19 : V16
namespace E20
noncomputable def s0 (y : V16) (v : E20) : E20 := (E20.rec (motive := fun _ => V16 → E20) (fun _ x1 x2 x3 x4 x5 x6 x7 x8 x9 x10 x11 x12 x13 x14 x15 x16 x17 x18 x19 y => .mk y x1 x2 x3 x4 x5 x6 x7 x8 x9 x10 x11 x12 x13 x14 x15 x16 x17 x18 x19) v : V16 → E20) y
noncomputable def s1 (y : V16) (v : E20) : E20 := (E20.rec (motive := fun _ => V16 → E20) (fun x0 _ x2 x3 x4 x5 x6 x7 x8 x9 x10 x11 x12 x13 x14 x15 x16 x17 x18 x19 y => .mk x0 y x2 x3 x4 x5 x6 x7 x8 x9 x10 x11 x12 x13 x14 x15 x16 x17 x18 x19) v : V16 → E20) y
noncomputable def s2 (y : V16) (v : E20) : E20 := (E20.rec (motive := fun _ => V16 → E20) (fun x0 x1 _ x3 x4 x5 x6 x7 x8 x9 x10 x11 x12 x13 x14 x15 x16 x17 x18 x19 y => .mk x0 x1 y x3 x4 x5 x6 x7 x8 x9 x10 x11 x12 x13 x14 x15 x16 x17 x18 x19) v : V16 → E20) y
noncomputable def s3 (y : V16) (v : E20) : E20 := (E20.rec (motive := fun _ => V16 → E20) (fun x0 x1 x2 _ x4 x5 x6 x7 x8 x9 x10 x11 x12 x13 x14 x15 x16 x17 x18 x19 y => .mk x0 x1 x2 y x4 x5 x6 x7 x8 x9 x10 x11 x12 x13 x14 x15 x16 x17 x18 x19) v : V16 → E20) y
noncomputable def s4 (y : V16) (v : E20) : E20 := (E20.rec (motive := fun _ => V16 → E20) (fun x0 x1 x2 x3 _ x5 x6 x7 x8 x9 x10 x11 x12 x13 x14 x15 x16 x17 x18 x19 y => .mk x0 x1 x2 x3 y x5 x6 x7 x8 x9 x10 x11 x12 x13 x14 x15 x16 x17 x18 x19) v : V16 → E20) y
noncomputable def s5 (y : V16) (v : E20) : E20 := (E20.rec (motive := fun _ => V16 → E20) (fun x0 x1 x2 x3 x4 _ x6 x7 x8 x9 x10 x11 x12 x13 x14 x15 x16 x17 x18 x19 y => .mk x0 x1 x2 x3 x4 y x6 x7 x8 x9 x10 x11 x12 x13 x14 x15 x16 x17 x18 x19) v : V16 → E20) y
noncomputable def s6 (y : V16) (v : E20) : E20 := (E20.rec (motive := fun _ => V16 → E20) (fun x0 x1 x2 x3 x4 x5 _ x7 x8 x9 x10 x11 x12 x13 x14 x15 x16 x17 x18 x19 y => .mk x0 x1 x2 x3 x4 x5 y x7 x8 x9 x10 x11 x12 x13 x14 x15 x16 x17 x18 x19) v : V16 → E20) y
noncomputable def s7 (y : V16) (v : E20) : E20 := (E20.rec (motive := fun _ => V16 → E20) (fun x0 x1 x2 x3 x4 x5 x6 _ x8 x9 x10 x11 x12 x13 x14 x15 x16 x17 x18 x19 y => .mk x0 x1 x2 x3 x4 x5 x6 y x8 x9 x10 x11 x12 x13 x14 x15 x16 x17 x18 x19) v : V16 → E20) y
noncomputable def s8 (y : V16) (v : E20) : E20 := (E20.rec (motive := fun _ => V16 → E20) (fun x0 x1 x2 x3 x4 x5 x6 x7 _ x9 x10 x11 x12 x13 x14 x15 x16 x17 x18 x19 y => .mk x0 x1 x2 x3 x4 x5 x6 x7 y x9 x10 x11 x12 x13 x14 x15 x16 x17 x18 x19) v : V16 → E20) y
noncomputable def s9 (y : V16) (v : E20) : E20 := (E20.rec (motive := fun _ => V16 → E20) (fun x0 x1 x2 x3 x4 x5 x6 x7 x8 _ x10 x11 x12 x13 x14 x15 x16 x17 x18 x19 y => .mk x0 x1 x2 x3 x4 x5 x6 x7 x8 y x10 x11 x12 x13 x14 x15 x16 x17 x18 x19) v : V16 → E20) y
noncomputable def s10 (y : V16) (v : E20) : E20 := (E20.rec (motive := fun _ => V16 → E20) (fun x0 x1 x2 x3 x4 x5 x6 x7 x8 x9 _ x11 x12 x13 x14 x15 x16 x17 x18 x19 y => .mk x0 x1 x2 x3 x4 x5 x6 x7 x8 x9 y x11 x12 x13 x14 x15 x16 x17 x18 x19) v : V16 → E20) y
noncomputable def s11 (y : V16) (v : E20) : E20 := (E20.rec (motive := fun _ => V16 → E20) (fun x0 x1 x2 x3 x4 x5 x6 x7 x8 x9 x10 _ x12 x13 x14 x15 x16 x17 x18 x19 y => .mk x0 x1 x2 x3 x4 x5 x6 x7 x8 x9 x10 y x12 x13 x14 x15 x16 x17 x18 x19) v : V16 → E20) y
noncomputable def s12 (y : V16) (v : E20) : E20 := (E20.rec (motive := fun _ => V16 → E20) (fun x0 x1 x2 x3 x4 x5 x6 x7 x8 x9 x10 x11 _ x13 x14 x15 x16 x17 x18 x19 y => .mk x0 x1 x2 x3 x4 x5 x6 x7 x8 x9 x10 x11 y x13 x14 x15 x16 x17 x18 x19) v : V16 → E20) y
noncomputable def s13 (y : V16) (v : E20) : E20 := (E20.rec (motive := fun _ => V16 → E20) (fun x0 x1 x2 x3 x4 x5 x6 x7 x8 x9 x10 x11 x12 _ x14 x15 x16 x17 x18 x19 y => .mk x0 x1 x2 x3 x4 x5 x6 x7 x8 x9 x10 x11 x12 y x14 x15 x16 x17 x18 x19) v : V16 → E20) y
noncomputable def s14 (y : V16) (v : E20) : E20 := (E20.rec (motive := fun _ => V16 → E20) (fun x0 x1 x2 x3 x4 x5 x6 x7 x8 x9 x10 x11 x12 x13 _ x15 x16 x17 x18 x19 y => .mk x0 x1 x2 x3 x4 x5 x6 x7 x8 x9 x10 x11 x12 x13 y x15 x16 x17 x18 x19) v : V16 → E20) y
noncomputable def s15 (y : V16) (v : E20) : E20 := (E20.rec (motive := fun _ => V16 → E20) (fun x0 x1 x2 x3 x4 x5 x6 x7 x8 x9 x10 x11 x12 x13 x14 _ x16 x17 x18 x19 y => .mk x0 x1 x2 x3 x4 x5 x6 x7 x8 x9 x10 x11 x12 x13 x14 y x16 x17 x18 x19) v : V16 → E20) y
noncomputable def s16 (y : V16) (v : E20) : E20 := (E20.rec (motive := fun _ => V16 → E20) (fun x0 x1 x2 x3 x4 x5 x6 x7 x8 x9 x10 x11 x12 x13 x14 x15 _ x17 x18 x19 y => .mk x0 x1 x2 x3 x4 x5 x6 x7 x8 x9 x10 x11 x12 x13 x14 x15 y x17 x18 x19) v : V16 → E20) y
noncomputable def s17 (y : V16) (v : E20) : E20 := (E20.rec (motive := fun _ => V16 → E20) (fun x0 x1 x2 x3 x4 x5 x6 x7 x8 x9 x10 x11 x12 x13 x14 x15 x16 _ x18 x19 y => .mk x0 x1 x2 x3 x4 x5 x6 x7 x8 x9 x10 x11 x12 x13 x14 x15 x16 y x18 x19) v : V16 → E20) y
noncomputable def s18 (y : V16) (v : E20) : E20 := (E20.rec (motive := fun _ => V16 → E20) (fun x0 x1 x2 x3 x4 x5 x6 x7 x8 x9 x10 x11 x12 x13 x14 x15 x16 x17 _ x19 y => .mk x0 x1 x2 x3 x4 x5 x6 x7 x8 x9 x10 x11 x12 x13 x14 x15 x16 x17 y x19) v : V16 → E20) y
noncomputable def s19 (y : V16) (v : E20) : E20 := (E20.rec (motive := fun _ => V16 → E20) (fun x0 x1 x2 x3 x4 x5 x6 x7 x8 x9 x10 x11 x12 x13 x14 x15 x16 x17 x18 _ y => .mk x0 x1 x2 x3 x4 x5 x6 x7 x8 x9 x10 x11 x12 x13 x14 x15 x16 x17 x18 y) v : V16 → E20) y
noncomputable def get (v : E20) : Nat → V16
  | 0 => v.a0
  | 1 => v.a1
  | 2 => v.a2
  | 3 => v.a3
  | 4 => v.a4
  | 5 => v.a5
  | 6 => v.a6
  | 7 => v.a7
  | 8 => v.a8
  | 9 => v.a9
  | 10 => v.a10
  | 11 => v.a11
  | 12 => v.a12
  | 13 => v.a13
  | 14 => v.a14
  | 15 => v.a15
  | 16 => v.a16
  | 17 => v.a17
  | 18 => v.a18
  | _ => v.a19
noncomputable def set (y : V16) (v : E20) : Nat → E20
  | 0 => s0 y v
  | 1 => s1 y v
  | 2 => s2 y v
  | 3 => s3 y v
  | 4 => s4 y v
  | 5 => s5 y v
  | 6 => s6 y v
  | 7 => s7 y v
  | 8 => s8 y v
  | 9 => s9 y v
  | 10 => s10 y v
  | 11 => s11 y v
  | 12 => s12 y v
  | 13 => s13 y v
  | 14 => s14 y v
  | 15 => s15 y v
  | 16 => s16 y v
  | 17 => s17 y v
  | 18 => s18 y v
  | _ => s19 y v
end E20
abbrev Env := E20

/-- a tree of places: 0 at the root, odd places to the left, even ones to the right -/
inductive VT where
  | mt
  | nd (v : Value) (l r : VT)
namespace VT
noncomputable def getR (gl gr : Nat → Value) (k : Nat) : Value := Nat.rec (motive := fun _ => Value) (gl (Nat.div k 2)) (fun _ _ => gr (Nat.div k 2)) (Nat.mod k 2)
noncomputable def getM (v : Value) (_ _ : VT) (gl gr : Nat → Value) (i : Nat) : Value := Nat.rec (motive := fun _ => Value) v (fun k _ => getR gl gr k) i
/-- what stands at a place -/
noncomputable def get (t : VT) : Nat → Value := VT.rec (motive := fun _ => Nat → Value) (fun _ => noRes) getM t
noncomputable def mkL (v : Value) (r l : VT) : Option VT := some (.nd v l r)
noncomputable def mkR (v : Value) (l r : VT) : Option VT := some (.nd v l r)
noncomputable def setL (v : Value) (r : VT) (o : Option VT) : Option VT := Option.rec (motive := fun _ => Option VT) none (mkL v r) o
noncomputable def setR (v : Value) (l : VT) (o : Option VT) : Option VT := Option.rec (motive := fun _ => Option VT) none (mkR v l) o
noncomputable def setK (v : Value) (l r : VT) (sl sr : Nat → Value → Option VT) (x : Value) (k : Nat) : Option VT :=
  Nat.rec (motive := fun _ => Option VT) (setL v r (sl (Nat.div k 2) x)) (fun _ _ => setR v l (sr (Nat.div k 2) x)) (Nat.mod k 2)
noncomputable def setM (v : Value) (l r : VT) (sl sr : Nat → Value → Option VT) (i : Nat) (x : Value) : Option VT :=
  Nat.rec (motive := fun _ => Option VT) (some (.nd x l r)) (fun k _ => setK v l r sl sr x k) i
noncomputable def setE (i : Nat) (x : Value) : Option VT := Nat.rec (motive := fun _ => Option VT) (some (.nd x .mt .mt)) (fun _ _ => none) i
/-- another thing at a place; none: the place cannot be -/
noncomputable def set (t : VT) : Nat → Value → Option VT := VT.rec (motive := fun _ => Nat → Value → Option VT) setE setM t
end VT

structure Ent where
  key : Value
  val : Value
  born : Nat

/-- a block: cells, so many, of a type; a map; nothing any more -/
inductive Blk where
  | cells (c : VT) (size : Nat) (elem : Nat)
  | map (es : List Ent) (clock : Nat)
  | iter (m : Option Nat) (since : Nat) (seen : List Nat) (last : Nat)
  /-- a walk that stands at an entry, whatever came ahead of it; one that is going to step there -/
  | cur (m : Nat) (at_ : Nat) (last : Nat)
  | pick (m : Nat) (at_ : Nat) (last : Nat) (sn : Option (List Nat))
  | dead

/-- a tree of places: 0 at the root, odd places to the left, even ones to the right -/
inductive BT where
  | mt
  | nd (v : Blk) (l r : BT)
namespace BT
noncomputable def getR (gl gr : Nat → Blk) (k : Nat) : Blk := Nat.rec (motive := fun _ => Blk) (gl (Nat.div k 2)) (fun _ _ => gr (Nat.div k 2)) (Nat.mod k 2)
noncomputable def getM (v : Blk) (_ _ : BT) (gl gr : Nat → Blk) (i : Nat) : Blk := Nat.rec (motive := fun _ => Blk) v (fun k _ => getR gl gr k) i
/-- what stands at a place -/
noncomputable def get (t : BT) : Nat → Blk := BT.rec (motive := fun _ => Nat → Blk) (fun _ => .dead) getM t
noncomputable def mkL (v : Blk) (r l : BT) : Option BT := some (.nd v l r)
noncomputable def mkR (v : Blk) (l r : BT) : Option BT := some (.nd v l r)
noncomputable def setL (v : Blk) (r : BT) (o : Option BT) : Option BT := Option.rec (motive := fun _ => Option BT) none (mkL v r) o
noncomputable def setR (v : Blk) (l : BT) (o : Option BT) : Option BT := Option.rec (motive := fun _ => Option BT) none (mkR v l) o
noncomputable def setK (v : Blk) (l r : BT) (sl sr : Nat → Blk → Option BT) (x : Blk) (k : Nat) : Option BT :=
  Nat.rec (motive := fun _ => Option BT) (setL v r (sl (Nat.div k 2) x)) (fun _ _ => setR v l (sr (Nat.div k 2) x)) (Nat.mod k 2)
noncomputable def setM (v : Blk) (l r : BT) (sl sr : Nat → Blk → Option BT) (i : Nat) (x : Blk) : Option BT :=
  Nat.rec (motive := fun _ => Option BT) (some (.nd x l r)) (fun k _ => setK v l r sl sr x k) i
noncomputable def setE (i : Nat) (x : Blk) : Option BT := Nat.rec (motive := fun _ => Option BT) (some (.nd x .mt .mt)) (fun _ _ => none) i
/-- another thing at a place; none: the place cannot be -/
noncomputable def set (t : BT) : Nat → Blk → Option BT := BT.rec (motive := fun _ => Nat → Blk → Option BT) setE setM t
end BT

structure Hp where
  next : Nat
  low : Nat
  high : Nat
  mark : Nat
  bl : BT

/-- how a piece of code ends -/
inductive X where
  | norm (e : Env) (h : Hp)
  | exit (id : Nat) (e : Env) (h : Hp)
  | ret (e : Env) (h : Hp)
  | no

namespace Env
noncomputable def get (e : Env) (i : Nat) : Value := (E20.get e (i / 16)).get (i % 16)
noncomputable def set (i : Nat) (y : Value) (e : Env) : Env := E20.set (V16.set y (E20.get e (i / 16)) (i % 16)) e (i / 16)
end Env
noncomputable def T0 (s : Value → V16 → V16) (k : Env → X) (y : Value) (e : Env) : X := (E20.rec (motive := fun _ => (Value → V16 → V16) → (Env → X) → Value → X) (fun z0 z1 z2 z3 z4 z5 z6 z7 z8 z9 z10 z11 z12 z13 z14 z15 z16 z17 z18 z19 s k y => k (.mk (s y z0) z1 z2 z3 z4 z5 z6 z7 z8 z9 z10 z11 z12 z13 z14 z15 z16 z17 z18 z19)) e : (Value → V16 → V16) → (Env → X) → Value → X) s k y
noncomputable def T1 (s : Value → V16 → V16) (k : Env → X) (y : Value) (e : Env) : X := (E20.rec (motive := fun _ => (Value → V16 → V16) → (Env → X) → Value → X) (fun z0 z1 z2 z3 z4 z5 z6 z7 z8 z9 z10 z11 z12 z13 z14 z15 z16 z17 z18 z19 s k y => k (.mk z0 (s y z1) z2 z3 z4 z5 z6 z7 z8 z9 z10 z11 z12 z13 z14 z15 z16 z17 z18 z19)) e : (Value → V16 → V16) → (Env → X) → Value → X) s k y
noncomputable def T2 (s : Value → V16 → V16) (k : Env → X) (y : Value) (e : Env) : X := (E20.rec (motive := fun _ => (Value → V16 → V16) → (Env → X) → Value → X) (fun z0 z1 z2 z3 z4 z5 z6 z7 z8 z9 z10 z11 z12 z13 z14 z15 z16 z17 z18 z19 s k y => k (.mk z0 z1 (s y z2) z3 z4 z5 z6 z7 z8 z9 z10 z11 z12 z13 z14 z15 z16 z17 z18 z19)) e : (Value → V16 → V16) → (Env → X) → Value → X) s k y
noncomputable def T3 (s : Value → V16 → V16) (k : Env → X) (y : Value) (e : Env) : X := (E20.rec (motive := fun _ => (Value → V16 → V16) → (Env → X) → Value → X) (fun z0 z1 z2 z3 z4 z5 z6 z7 z8 z9 z10 z11 z12 z13 z14 z15 z16 z17 z18 z19 s k y => k (.mk z0 z1 z2 (s y z3) z4 z5 z6 z7 z8 z9 z10 z11 z12 z13 z14 z15 z16 z17 z18 z19)) e : (Value → V16 → V16) → (Env → X) → Value → X) s k y
noncomputable def T4 (s : Value → V16 → V16) (k : Env → X) (y : Value) (e : Env) : X := (E20.rec (motive := fun _ => (Value → V16 → V16) → (Env → X) → Value → X) (fun z0 z1 z2 z3 z4 z5 z6 z7 z8 z9 z10 z11 z12 z13 z14 z15 z16 z17 z18 z19 s k y => k (.mk z0 z1 z2 z3 (s y z4) z5 z6 z7 z8 z9 z10 z11 z12 z13 z14 z15 z16 z17 z18 z19)) e : (Value → V16 → V16) → (Env → X) → Value → X) s k y
noncomputable def T5 (s : Value → V16 → V16) (k : Env → X) (y : Value) (e : Env) : X := (E20.rec (motive := fun _ => (Value → V16 → V16) → (Env → X) → Value → X) (fun z0 z1 z2 z3 z4 z5 z6 z7 z8 z9 z10 z11 z12 z13 z14 z15 z16 z17 z18 z19 s k y => k (.mk z0 z1 z2 z3 z4 (s y z5) z6 z7 z8 z9 z10 z11 z12 z13 z14 z15 z16 z17 z18 z19)) e : (Value → V16 → V16) → (Env → X) → Value → X) s k y
noncomputable def T6 (s : Value → V16 → V16) (k : Env → X) (y : Value) (e : Env) : X := (E20.rec (motive := fun _ => (Value → V16 → V16) → (Env → X) → Value → X) (fun z0 z1 z2 z3 z4 z5 z6 z7 z8 z9 z10 z11 z12 z13 z14 z15 z16 z17 z18 z19 s k y => k (.mk z0 z1 z2 z3 z4 z5 (s y z6) z7 z8 z9 z10 z11 z12 z13 z14 z15 z16 z17 z18 z19)) e : (Value → V16 → V16) → (Env → X) → Value → X) s k y
noncomputable def T7 (s : Value → V16 → V16) (k : Env → X) (y : Value) (e : Env) : X := (E20.rec (motive := fun _ => (Value → V16 → V16) → (Env → X) → Value → X) (fun z0 z1 z2 z3 z4 z5 z6 z7 z8 z9 z10 z11 z12 z13 z14 z15 z16 z17 z18 z19 s k y => k (.mk z0 z1 z2 z3 z4 z5 z6 (s y z7) z8 z9 z10 z11 z12 z13 z14 z15 z16 z17 z18 z19)) e : (Value → V16 → V16) → (Env → X) → Value → X) s k y
noncomputable def T8 (s : Value → V16 → V16) (k : Env → X) (y : Value) (e : Env) : X := (E20.rec (motive := fun _ => (Value → V16 → V16) → (Env → X) → Value → X) (fun z0 z1 z2 z3 z4 z5 z6 z7 z8 z9 z10 z11 z12 z13 z14 z15 z16 z17 z18 z19 s k y => k (.mk z0 z1 z2 z3 z4 z5 z6 z7 (s y z8) z9 z10 z11 z12 z13 z14 z15 z16 z17 z18 z19)) e : (Value → V16 → V16) → (Env → X) → Value → X) s k y
noncomputable def T9 (s : Value → V16 → V16) (k : Env → X) (y : Value) (e : Env) : X := (E20.rec (motive := fun _ => (Value → V16 → V16) → (Env → X) → Value → X) (fun z0 z1 z2 z3 z4 z5 z6 z7 z8 z9 z10 z11 z12 z13 z14 z15 z16 z17 z18 z19 s k y => k (.mk z0 z1 z2 z3 z4 z5 z6 z7 z8 (s y z9) z10 z11 z12 z13 z14 z15 z16 z17 z18 z19)) e : (Value → V16 → V16) → (Env → X) → Value → X) s k y
noncomputable def T10 (s : Value → V16 → V16) (k : Env → X) (y : Value) (e : Env) : X := (E20.rec (motive := fun _ => (Value → V16 → V16) → (Env → X) → Value → X) (fun z0 z1 z2 z3 z4 z5 z6 z7 z8 z9 z10 z11 z12 z13 z14 z15 z16 z17 z18 z19 s k y => k (.mk z0 z1 z2 z3 z4 z5 z6 z7 z8 z9 (s y z10) z11 z12 z13 z14 z15 z16 z17 z18 z19)) e : (Value → V16 → V16) → (Env → X) → Value → X) s k y
noncomputable def T11 (s : Value → V16 → V16) (k : Env → X) (y : Value) (e : Env) : X := (E20.rec (motive := fun _ => (Value → V16 → V16) → (Env → X) → Value → X) (fun z0 z1 z2 z3 z4 z5 z6 z7 z8 z9 z10 z11 z12 z13 z14 z15 z16 z17 z18 z19 s k y => k (.mk z0 z1 z2 z3 z4 z5 z6 z7 z8 z9 z10 (s y z11) z12 z13 z14 z15 z16 z17 z18 z19)) e : (Value → V16 → V16) → (Env → X) → Value → X) s k y
noncomputable def T12 (s : Value → V16 → V16) (k : Env → X) (y : Value) (e : Env) : X := (E20.rec (motive := fun _ => (Value → V16 → V16) → (Env → X) → Value → X) (fun z0 z1 z2 z3 z4 z5 z6 z7 z8 z9 z10 z11 z12 z13 z14 z15 z16 z17 z18 z19 s k y => k (.mk z0 z1 z2 z3 z4 z5 z6 z7 z8 z9 z10 z11 (s y z12) z13 z14 z15 z16 z17 z18 z19)) e : (Value → V16 → V16) → (Env → X) → Value → X) s k y
noncomputable def T13 (s : Value → V16 → V16) (k : Env → X) (y : Value) (e : Env) : X := (E20.rec (motive := fun _ => (Value → V16 → V16) → (Env → X) → Value → X) (fun z0 z1 z2 z3 z4 z5 z6 z7 z8 z9 z10 z11 z12 z13 z14 z15 z16 z17 z18 z19 s k y => k (.mk z0 z1 z2 z3 z4 z5 z6 z7 z8 z9 z10 z11 z12 (s y z13) z14 z15 z16 z17 z18 z19)) e : (Value → V16 → V16) → (Env → X) → Value → X) s k y
noncomputable def T14 (s : Value → V16 → V16) (k : Env → X) (y : Value) (e : Env) : X := (E20.rec (motive := fun _ => (Value → V16 → V16) → (Env → X) → Value → X) (fun z0 z1 z2 z3 z4 z5 z6 z7 z8 z9 z10 z11 z12 z13 z14 z15 z16 z17 z18 z19 s k y => k (.mk z0 z1 z2 z3 z4 z5 z6 z7 z8 z9 z10 z11 z12 z13 (s y z14) z15 z16 z17 z18 z19)) e : (Value → V16 → V16) → (Env → X) → Value → X) s k y
noncomputable def T15 (s : Value → V16 → V16) (k : Env → X) (y : Value) (e : Env) : X := (E20.rec (motive := fun _ => (Value → V16 → V16) → (Env → X) → Value → X) (fun z0 z1 z2 z3 z4 z5 z6 z7 z8 z9 z10 z11 z12 z13 z14 z15 z16 z17 z18 z19 s k y => k (.mk z0 z1 z2 z3 z4 z5 z6 z7 z8 z9 z10 z11 z12 z13 z14 (s y z15) z16 z17 z18 z19)) e : (Value → V16 → V16) → (Env → X) → Value → X) s k y
noncomputable def T16 (s : Value → V16 → V16) (k : Env → X) (y : Value) (e : Env) : X := (E20.rec (motive := fun _ => (Value → V16 → V16) → (Env → X) → Value → X) (fun z0 z1 z2 z3 z4 z5 z6 z7 z8 z9 z10 z11 z12 z13 z14 z15 z16 z17 z18 z19 s k y => k (.mk z0 z1 z2 z3 z4 z5 z6 z7 z8 z9 z10 z11 z12 z13 z14 z15 (s y z16) z17 z18 z19)) e : (Value → V16 → V16) → (Env → X) → Value → X) s k y
noncomputable def T17 (s : Value → V16 → V16) (k : Env → X) (y : Value) (e : Env) : X := (E20.rec (motive := fun _ => (Value → V16 → V16) → (Env → X) → Value → X) (fun z0 z1 z2 z3 z4 z5 z6 z7 z8 z9 z10 z11 z12 z13 z14 z15 z16 z17 z18 z19 s k y => k (.mk z0 z1 z2 z3 z4 z5 z6 z7 z8 z9 z10 z11 z12 z13 z14 z15 z16 (s y z17) z18 z19)) e : (Value → V16 → V16) → (Env → X) → Value → X) s k y
noncomputable def T18 (s : Value → V16 → V16) (k : Env → X) (y : Value) (e : Env) : X := (E20.rec (motive := fun _ => (Value → V16 → V16) → (Env → X) → Value → X) (fun z0 z1 z2 z3 z4 z5 z6 z7 z8 z9 z10 z11 z12 z13 z14 z15 z16 z17 z18 z19 s k y => k (.mk z0 z1 z2 z3 z4 z5 z6 z7 z8 z9 z10 z11 z12 z13 z14 z15 z16 z17 (s y z18) z19)) e : (Value → V16 → V16) → (Env → X) → Value → X) s k y
noncomputable def T19 (s : Value → V16 → V16) (k : Env → X) (y : Value) (e : Env) : X := (E20.rec (motive := fun _ => (Value → V16 → V16) → (Env → X) → Value → X) (fun z0 z1 z2 z3 z4 z5 z6 z7 z8 z9 z10 z11 z12 z13 z14 z15 z16 z17 z18 z19 s k y => k (.mk z0 z1 z2 z3 z4 z5 z6 z7 z8 z9 z10 z11 z12 z13 z14 z15 z16 z17 z18 (s y z19))) e : (Value → V16 → V16) → (Env → X) → Value → X) s k y
noncomputable def g0 (e : Env) : Value := e.a0.a0
noncomputable def t0 : (Env → X) → Value → Env → X := T0 V16.s0
noncomputable def g1 (e : Env) : Value := e.a0.a1
noncomputable def t1 : (Env → X) → Value → Env → X := T0 V16.s1
noncomputable def g2 (e : Env) : Value := e.a0.a2
noncomputable def t2 : (Env → X) → Value → Env → X := T0 V16.s2
noncomputable def g3 (e : Env) : Value := e.a0.a3
noncomputable def t3 : (Env → X) → Value → Env → X := T0 V16.s3
noncomputable def g4 (e : Env) : Value := e.a0.a4
noncomputable def t4 : (Env → X) → Value → Env → X := T0 V16.s4
noncomputable def g5 (e : Env) : Value := e.a0.a5
noncomputable def t5 : (Env → X) → Value → Env → X := T0 V16.s5
noncomputable def g6 (e : Env) : Value := e.a0.a6
noncomputable def t6 : (Env → X) → Value → Env → X := T0 V16.s6
noncomputable def g7 (e : Env) : Value := e.a0.a7
noncomputable def t7 : (Env → X) → Value → Env → X := T0 V16.s7
noncomputable def g8 (e : Env) : Value := e.a0.a8
noncomputable def t8 : (Env → X) → Value → Env → X := T0 V16.s8
noncomputable def g9 (e : Env) : Value := e.a0.a9
noncomputable def t9 : (Env → X) → Value → Env → X := T0 V16.s9
noncomputable def g10 (e : Env) : Value := e.a0.a10
noncomputable def t10 : (Env → X) → Value → Env → X := T0 V16.s10
noncomputable def g11 (e : Env) : Value := e.a0.a11
noncomputable def t11 : (Env → X) → Value → Env → X := T0 V16.s11
noncomputable def g12 (e : Env) : Value := e.a0.a12
noncomputable def t12 : (Env → X) → Value → Env → X := T0 V16.s12
noncomputable def g13 (e : Env) : Value := e.a0.a13
noncomputable def t13 : (Env → X) → Value → Env → X := T0 V16.s13
noncomputable def g14 (e : Env) : Value := e.a0.a14
noncomputable def t14 : (Env → X) → Value → Env → X := T0 V16.s14
noncomputable def g15 (e : Env) : Value := e.a0.a15
noncomputable def t15 : (Env → X) → Value → Env → X := T0 V16.s15
noncomputable def g16 (e : Env) : Value := e.a1.a0
noncomputable def t16 : (Env → X) → Value → Env → X := T1 V16.s0
noncomputable def g17 (e : Env) : Value := e.a1.a1
noncomputable def t17 : (Env → X) → Value → Env → X := T1 V16.s1
noncomputable def g18 (e : Env) : Value := e.a1.a2
noncomputable def t18 : (Env → X) → Value → Env → X := T1 V16.s2
noncomputable def g19 (e : Env) : Value := e.a1.a3
noncomputable def t19 : (Env → X) → Value → Env → X := T1 V16.s3
noncomputable def g20 (e : Env) : Value := e.a1.a4
noncomputable def t20 : (Env → X) → Value → Env → X := T1 V16.s4
noncomputable def g21 (e : Env) : Value := e.a1.a5
noncomputable def t21 : (Env → X) → Value → Env → X := T1 V16.s5
noncomputable def g22 (e : Env) : Value := e.a1.a6
noncomputable def t22 : (Env → X) → Value → Env → X := T1 V16.s6
noncomputable def g23 (e : Env) : Value := e.a1.a7
noncomputable def t23 : (Env → X) → Value → Env → X := T1 V16.s7
noncomputable def g24 (e : Env) : Value := e.a1.a8
noncomputable def t24 : (Env → X) → Value → Env → X := T1 V16.s8
noncomputable def g25 (e : Env) : Value := e.a1.a9
noncomputable def t25 : (Env → X) → Value → Env → X := T1 V16.s9
noncomputable def g26 (e : Env) : Value := e.a1.a10
noncomputable def t26 : (Env → X) → Value → Env → X := T1 V16.s10
noncomputable def g27 (e : Env) : Value := e.a1.a11
noncomputable def t27 : (Env → X) → Value → Env → X := T1 V16.s11
noncomputable def g28 (e : Env) : Value := e.a1.a12
noncomputable def t28 : (Env → X) → Value → Env → X := T1 V16.s12
noncomputable def g29 (e : Env) : Value := e.a1.a13
noncomputable def t29 : (Env → X) → Value → Env → X := T1 V16.s13
noncomputable def g30 (e : Env) : Value := e.a1.a14
noncomputable def t30 : (Env → X) → Value → Env → X := T1 V16.s14
noncomputable def g31 (e : Env) : Value := e.a1.a15
noncomputable def t31 : (Env → X) → Value → Env → X := T1 V16.s15
noncomputable def g32 (e : Env) : Value := e.a2.a0
noncomputable def t32 : (Env → X) → Value → Env → X := T2 V16.s0
noncomputable def g33 (e : Env) : Value := e.a2.a1
noncomputable def t33 : (Env → X) → Value → Env → X := T2 V16.s1
noncomputable def g34 (e : Env) : Value := e.a2.a2
noncomputable def t34 : (Env → X) → Value → Env → X := T2 V16.s2
noncomputable def g35 (e : Env) : Value := e.a2.a3
noncomputable def t35 : (Env → X) → Value → Env → X := T2 V16.s3
noncomputable def g36 (e : Env) : Value := e.a2.a4
noncomputable def t36 : (Env → X) → Value → Env → X := T2 V16.s4
noncomputable def g37 (e : Env) : Value := e.a2.a5
noncomputable def t37 : (Env → X) → Value → Env → X := T2 V16.s5
noncomputable def g38 (e : Env) : Value := e.a2.a6
noncomputable def t38 : (Env → X) → Value → Env → X := T2 V16.s6
noncomputable def g39 (e : Env) : Value := e.a2.a7
noncomputable def t39 : (Env → X) → Value → Env → X := T2 V16.s7
noncomputable def g40 (e : Env) : Value := e.a2.a8
noncomputable def t40 : (Env → X) → Value → Env → X := T2 V16.s8
noncomputable def g41 (e : Env) : Value := e.a2.a9
noncomputable def t41 : (Env → X) → Value → Env → X := T2 V16.s9
noncomputable def g42 (e : Env) : Value := e.a2.a10
noncomputable def t42 : (Env → X) → Value → Env → X := T2 V16.s10
noncomputable def g43 (e : Env) : Value := e.a2.a11
noncomputable def t43 : (Env → X) → Value → Env → X := T2 V16.s11
noncomputable def g44 (e : Env) : Value := e.a2.a12
noncomputable def t44 : (Env → X) → Value → Env → X := T2 V16.s12
noncomputable def g45 (e : Env) : Value := e.a2.a13
noncomputable def t45 : (Env → X) → Value → Env → X := T2 V16.s13
noncomputable def g46 (e : Env) : Value := e.a2.a14
noncomputable def t46 : (Env → X) → Value → Env → X := T2 V16.s14
noncomputable def g47 (e : Env) : Value := e.a2.a15
noncomputable def t47 : (Env → X) → Value → Env → X := T2 V16.s15
noncomputable def g48 (e : Env) : Value := e.a3.a0
noncomputable def t48 : (Env → X) → Value → Env → X := T3 V16.s0
noncomputable def g49 (e : Env) : Value := e.a3.a1
noncomputable def t49 : (Env → X) → Value → Env → X := T3 V16.s1
noncomputable def g50 (e : Env) : Value := e.a3.a2
noncomputable def t50 : (Env → X) → Value → Env → X := T3 V16.s2
noncomputable def g51 (e : Env) : Value := e.a3.a3
noncomputable def t51 : (Env → X) → Value → Env → X := T3 V16.s3
noncomputable def g52 (e : Env) : Value := e.a3.a4
noncomputable def t52 : (Env → X) → Value → Env → X := T3 V16.s4
noncomputable def g53 (e : Env) : Value := e.a3.a5
noncomputable def t53 : (Env → X) → Value → Env → X := T3 V16.s5
noncomputable def g54 (e : Env) : Value := e.a3.a6
noncomputable def t54 : (Env → X) → Value → Env → X := T3 V16.s6
noncomputable def g55 (e : Env) : Value := e.a3.a7
noncomputable def t55 : (Env → X) → Value → Env → X := T3 V16.s7
noncomputable def g56 (e : Env) : Value := e.a3.a8
noncomputable def t56 : (Env → X) → Value → Env → X := T3 V16.s8
noncomputable def g57 (e : Env) : Value := e.a3.a9
noncomputable def t57 : (Env → X) → Value → Env → X := T3 V16.s9
noncomputable def g58 (e : Env) : Value := e.a3.a10
noncomputable def t58 : (Env → X) → Value → Env → X := T3 V16.s10
noncomputable def g59 (e : Env) : Value := e.a3.a11
noncomputable def t59 : (Env → X) → Value → Env → X := T3 V16.s11
noncomputable def g60 (e : Env) : Value := e.a3.a12
noncomputable def t60 : (Env → X) → Value → Env → X := T3 V16.s12
noncomputable def g61 (e : Env) : Value := e.a3.a13
noncomputable def t61 : (Env → X) → Value → Env → X := T3 V16.s13
noncomputable def g62 (e : Env) : Value := e.a3.a14
noncomputable def t62 : (Env → X) → Value → Env → X := T3 V16.s14
noncomputable def g63 (e : Env) : Value := e.a3.a15
noncomputable def t63 : (Env → X) → Value → Env → X := T3 V16.s15
noncomputable def g64 (e : Env) : Value := e.a4.a0
noncomputable def t64 : (Env → X) → Value → Env → X := T4 V16.s0
noncomputable def g65 (e : Env) : Value := e.a4.a1
noncomputable def t65 : (Env → X) → Value → Env → X := T4 V16.s1
noncomputable def g66 (e : Env) : Value := e.a4.a2
noncomputable def t66 : (Env → X) → Value → Env → X := T4 V16.s2
noncomputable def g67 (e : Env) : Value := e.a4.a3
noncomputable def t67 : (Env → X) → Value → Env → X := T4 V16.s3
noncomputable def g68 (e : Env) : Value := e.a4.a4
noncomputable def t68 : (Env → X) → Value → Env → X := T4 V16.s4
noncomputable def g69 (e : Env) : Value := e.a4.a5
noncomputable def t69 : (Env → X) → Value → Env → X := T4 V16.s5
noncomputable def g70 (e : Env) : Value := e.a4.a6
noncomputable def t70 : (Env → X) → Value → Env → X := T4 V16.s6
noncomputable def g71 (e : Env) : Value := e.a4.a7
noncomputable def t71 : (Env → X) → Value → Env → X := T4 V16.s7
noncomputable def g72 (e : Env) : Value := e.a4.a8
noncomputable def t72 : (Env → X) → Value → Env → X := T4 V16.s8
noncomputable def g73 (e : Env) : Value := e.a4.a9
noncomputable def t73 : (Env → X) → Value → Env → X := T4 V16.s9
noncomputable def g74 (e : Env) : Value := e.a4.a10
noncomputable def t74 : (Env → X) → Value → Env → X := T4 V16.s10
noncomputable def g75 (e : Env) : Value := e.a4.a11
noncomputable def t75 : (Env → X) → Value → Env → X := T4 V16.s11
noncomputable def g76 (e : Env) : Value := e.a4.a12
noncomputable def t76 : (Env → X) → Value → Env → X := T4 V16.s12
noncomputable def g77 (e : Env) : Value := e.a4.a13
noncomputable def t77 : (Env → X) → Value → Env → X := T4 V16.s13
noncomputable def g78 (e : Env) : Value := e.a4.a14
noncomputable def t78 : (Env → X) → Value → Env → X := T4 V16.s14
noncomputable def g79 (e : Env) : Value := e.a4.a15
noncomputable def t79 : (Env → X) → Value → Env → X := T4 V16.s15
noncomputable def g80 (e : Env) : Value := e.a5.a0
noncomputable def t80 : (Env → X) → Value → Env → X := T5 V16.s0
noncomputable def g81 (e : Env) : Value := e.a5.a1
noncomputable def t81 : (Env → X) → Value → Env → X := T5 V16.s1
noncomputable def g82 (e : Env) : Value := e.a5.a2
noncomputable def t82 : (Env → X) → Value → Env → X := T5 V16.s2
noncomputable def g83 (e : Env) : Value := e.a5.a3
noncomputable def t83 : (Env → X) → Value → Env → X := T5 V16.s3
noncomputable def g84 (e : Env) : Value := e.a5.a4
noncomputable def t84 : (Env → X) → Value → Env → X := T5 V16.s4
noncomputable def g85 (e : Env) : Value := e.a5.a5
noncomputable def t85 : (Env → X) → Value → Env → X := T5 V16.s5
noncomputable def g86 (e : Env) : Value := e.a5.a6
noncomputable def t86 : (Env → X) → Value → Env → X := T5 V16.s6
noncomputable def g87 (e : Env) : Value := e.a5.a7
noncomputable def t87 : (Env → X) → Value → Env → X := T5 V16.s7
noncomputable def g88 (e : Env) : Value := e.a5.a8
noncomputable def t88 : (Env → X) → Value → Env → X := T5 V16.s8
noncomputable def g89 (e : Env) : Value := e.a5.a9
noncomputable def t89 : (Env → X) → Value → Env → X := T5 V16.s9
noncomputable def g90 (e : Env) : Value := e.a5.a10
noncomputable def t90 : (Env → X) → Value → Env → X := T5 V16.s10
noncomputable def g91 (e : Env) : Value := e.a5.a11
noncomputable def t91 : (Env → X) → Value → Env → X := T5 V16.s11
noncomputable def g92 (e : Env) : Value := e.a5.a12
noncomputable def t92 : (Env → X) → Value → Env → X := T5 V16.s12
noncomputable def g93 (e : Env) : Value := e.a5.a13
noncomputable def t93 : (Env → X) → Value → Env → X := T5 V16.s13
noncomputable def g94 (e : Env) : Value := e.a5.a14
noncomputable def t94 : (Env → X) → Value → Env → X := T5 V16.s14
noncomputable def g95 (e : Env) : Value := e.a5.a15
noncomputable def t95 : (Env → X) → Value → Env → X := T5 V16.s15
noncomputable def g96 (e : Env) : Value := e.a6.a0
noncomputable def t96 : (Env → X) → Value → Env → X := T6 V16.s0
noncomputable def g97 (e : Env) : Value := e.a6.a1
noncomputable def t97 : (Env → X) → Value → Env → X := T6 V16.s1
noncomputable def g98 (e : Env) : Value := e.a6.a2
noncomputable def t98 : (Env → X) → Value → Env → X := T6 V16.s2
noncomputable def g99 (e : Env) : Value := e.a6.a3
noncomputable def t99 : (Env → X) → Value → Env → X := T6 V16.s3
noncomputable def g100 (e : Env) : Value := e.a6.a4
noncomputable def t100 : (Env → X) → Value → Env → X := T6 V16.s4
noncomputable def g101 (e : Env) : Value := e.a6.a5
noncomputable def t101 : (Env → X) → Value → Env → X := T6 V16.s5
noncomputable def g102 (e : Env) : Value := e.a6.a6
noncomputable def t102 : (Env → X) → Value → Env → X := T6 V16.s6
noncomputable def g103 (e : Env) : Value := e.a6.a7
noncomputable def t103 : (Env → X) → Value → Env → X := T6 V16.s7
noncomputable def g104 (e : Env) : Value := e.a6.a8
noncomputable def t104 : (Env → X) → Value → Env → X := T6 V16.s8
noncomputable def g105 (e : Env) : Value := e.a6.a9
noncomputable def t105 : (Env → X) → Value → Env → X := T6 V16.s9
noncomputable def g106 (e : Env) : Value := e.a6.a10
noncomputable def t106 : (Env → X) → Value → Env → X := T6 V16.s10
noncomputable def g107 (e : Env) : Value := e.a6.a11
noncomputable def t107 : (Env → X) → Value → Env → X := T6 V16.s11
noncomputable def g108 (e : Env) : Value := e.a6.a12
noncomputable def t108 : (Env → X) → Value → Env → X := T6 V16.s12
noncomputable def g109 (e : Env) : Value := e.a6.a13
noncomputable def t109 : (Env → X) → Value → Env → X := T6 V16.s13
noncomputable def g110 (e : Env) : Value := e.a6.a14
noncomputable def t110 : (Env → X) → Value → Env → X := T6 V16.s14
noncomputable def g111 (e : Env) : Value := e.a6.a15
noncomputable def t111 : (Env → X) → Value → Env → X := T6 V16.s15
noncomputable def g112 (e : Env) : Value := e.a7.a0
noncomputable def t112 : (Env → X) → Value → Env → X := T7 V16.s0
noncomputable def g113 (e : Env) : Value := e.a7.a1
noncomputable def t113 : (Env → X) → Value → Env → X := T7 V16.s1
noncomputable def g114 (e : Env) : Value := e.a7.a2
noncomputable def t114 : (Env → X) → Value → Env → X := T7 V16.s2
noncomputable def g115 (e : Env) : Value := e.a7.a3
noncomputable def t115 : (Env → X) → Value → Env → X := T7 V16.s3
noncomputable def g116 (e : Env) : Value := e.a7.a4
noncomputable def t116 : (Env → X) → Value → Env → X := T7 V16.s4
noncomputable def g117 (e : Env) : Value := e.a7.a5
noncomputable def t117 : (Env → X) → Value → Env → X := T7 V16.s5
noncomputable def g118 (e : Env) : Value := e.a7.a6
noncomputable def t118 : (Env → X) → Value → Env → X := T7 V16.s6
noncomputable def g119 (e : Env) : Value := e.a7.a7
noncomputable def t119 : (Env → X) → Value → Env → X := T7 V16.s7
noncomputable def g120 (e : Env) : Value := e.a7.a8
noncomputable def t120 : (Env → X) → Value → Env → X := T7 V16.s8
noncomputable def g121 (e : Env) : Value := e.a7.a9
noncomputable def t121 : (Env → X) → Value → Env → X := T7 V16.s9
noncomputable def g122 (e : Env) : Value := e.a7.a10
noncomputable def t122 : (Env → X) → Value → Env → X := T7 V16.s10
noncomputable def g123 (e : Env) : Value := e.a7.a11
noncomputable def t123 : (Env → X) → Value → Env → X := T7 V16.s11
noncomputable def g124 (e : Env) : Value := e.a7.a12
noncomputable def t124 : (Env → X) → Value → Env → X := T7 V16.s12
noncomputable def g125 (e : Env) : Value := e.a7.a13
noncomputable def t125 : (Env → X) → Value → Env → X := T7 V16.s13
noncomputable def g126 (e : Env) : Value := e.a7.a14
noncomputable def t126 : (Env → X) → Value → Env → X := T7 V16.s14
noncomputable def g127 (e : Env) : Value := e.a7.a15
noncomputable def t127 : (Env → X) → Value → Env → X := T7 V16.s15
noncomputable def g128 (e : Env) : Value := e.a8.a0
noncomputable def t128 : (Env → X) → Value → Env → X := T8 V16.s0
noncomputable def g129 (e : Env) : Value := e.a8.a1
noncomputable def t129 : (Env → X) → Value → Env → X := T8 V16.s1
noncomputable def g130 (e : Env) : Value := e.a8.a2
noncomputable def t130 : (Env → X) → Value → Env → X := T8 V16.s2
noncomputable def g131 (e : Env) : Value := e.a8.a3
noncomputable def t131 : (Env → X) → Value → Env → X := T8 V16.s3
noncomputable def g132 (e : Env) : Value := e.a8.a4
noncomputable def t132 : (Env → X) → Value → Env → X := T8 V16.s4
noncomputable def g133 (e : Env) : Value := e.a8.a5
noncomputable def t133 : (Env → X) → Value → Env → X := T8 V16.s5
noncomputable def g134 (e : Env) : Value := e.a8.a6
noncomputable def t134 : (Env → X) → Value → Env → X := T8 V16.s6
noncomputable def g135 (e : Env) : Value := e.a8.a7
noncomputable def t135 : (Env → X) → Value → Env → X := T8 V16.s7
noncomputable def g136 (e : Env) : Value := e.a8.a8
noncomputable def t136 : (Env → X) → Value → Env → X := T8 V16.s8
noncomputable def g137 (e : Env) : Value := e.a8.a9
noncomputable def t137 : (Env → X) → Value → Env → X := T8 V16.s9
noncomputable def g138 (e : Env) : Value := e.a8.a10
noncomputable def t138 : (Env → X) → Value → Env → X := T8 V16.s10
noncomputable def g139 (e : Env) : Value := e.a8.a11
noncomputable def t139 : (Env → X) → Value → Env → X := T8 V16.s11
noncomputable def g140 (e : Env) : Value := e.a8.a12
noncomputable def t140 : (Env → X) → Value → Env → X := T8 V16.s12
noncomputable def g141 (e : Env) : Value := e.a8.a13
noncomputable def t141 : (Env → X) → Value → Env → X := T8 V16.s13
noncomputable def g142 (e : Env) : Value := e.a8.a14
noncomputable def t142 : (Env → X) → Value → Env → X := T8 V16.s14
noncomputable def g143 (e : Env) : Value := e.a8.a15
noncomputable def t143 : (Env → X) → Value → Env → X := T8 V16.s15
noncomputable def g144 (e : Env) : Value := e.a9.a0
noncomputable def t144 : (Env → X) → Value → Env → X := T9 V16.s0
noncomputable def g145 (e : Env) : Value := e.a9.a1
noncomputable def t145 : (Env → X) → Value → Env → X := T9 V16.s1
noncomputable def g146 (e : Env) : Value := e.a9.a2
noncomputable def t146 : (Env → X) → Value → Env → X := T9 V16.s2
noncomputable def g147 (e : Env) : Value := e.a9.a3
noncomputable def t147 : (Env → X) → Value → Env → X := T9 V16.s3
noncomputable def g148 (e : Env) : Value := e.a9.a4
noncomputable def t148 : (Env → X) → Value → Env → X := T9 V16.s4
noncomputable def g149 (e : Env) : Value := e.a9.a5
noncomputable def t149 : (Env → X) → Value → Env → X := T9 V16.s5
noncomputable def g150 (e : Env) : Value := e.a9.a6
noncomputable def t150 : (Env → X) → Value → Env → X := T9 V16.s6
noncomputable def g151 (e : Env) : Value := e.a9.a7
noncomputable def t151 : (Env → X) → Value → Env → X := T9 V16.s7
noncomputable def g152 (e : Env) : Value := e.a9.a8
noncomputable def t152 : (Env → X) → Value → Env → X := T9 V16.s8
noncomputable def g153 (e : Env) : Value := e.a9.a9
noncomputable def t153 : (Env → X) → Value → Env → X := T9 V16.s9
noncomputable def g154 (e : Env) : Value := e.a9.a10
noncomputable def t154 : (Env → X) → Value → Env → X := T9 V16.s10
noncomputable def g155 (e : Env) : Value := e.a9.a11
noncomputable def t155 : (Env → X) → Value → Env → X := T9 V16.s11
noncomputable def g156 (e : Env) : Value := e.a9.a12
noncomputable def t156 : (Env → X) → Value → Env → X := T9 V16.s12
noncomputable def g157 (e : Env) : Value := e.a9.a13
noncomputable def t157 : (Env → X) → Value → Env → X := T9 V16.s13
noncomputable def g158 (e : Env) : Value := e.a9.a14
noncomputable def t158 : (Env → X) → Value → Env → X := T9 V16.s14
noncomputable def g159 (e : Env) : Value := e.a9.a15
noncomputable def t159 : (Env → X) → Value → Env → X := T9 V16.s15
noncomputable def g160 (e : Env) : Value := e.a10.a0
noncomputable def t160 : (Env → X) → Value → Env → X := T10 V16.s0
noncomputable def g161 (e : Env) : Value := e.a10.a1
noncomputable def t161 : (Env → X) → Value → Env → X := T10 V16.s1
noncomputable def g162 (e : Env) : Value := e.a10.a2
noncomputable def t162 : (Env → X) → Value → Env → X := T10 V16.s2
noncomputable def g163 (e : Env) : Value := e.a10.a3
noncomputable def t163 : (Env → X) → Value → Env → X := T10 V16.s3
noncomputable def g164 (e : Env) : Value := e.a10.a4
noncomputable def t164 : (Env → X) → Value → Env → X := T10 V16.s4
noncomputable def g165 (e : Env) : Value := e.a10.a5
noncomputable def t165 : (Env → X) → Value → Env → X := T10 V16.s5
noncomputable def g166 (e : Env) : Value := e.a10.a6
noncomputable def t166 : (Env → X) → Value → Env → X := T10 V16.s6
noncomputable def g167 (e : Env) : Value := e.a10.a7
noncomputable def t167 : (Env → X) → Value → Env → X := T10 V16.s7
noncomputable def g168 (e : Env) : Value := e.a10.a8
noncomputable def t168 : (Env → X) → Value → Env → X := T10 V16.s8
noncomputable def g169 (e : Env) : Value := e.a10.a9
noncomputable def t169 : (Env → X) → Value → Env → X := T10 V16.s9
noncomputable def g170 (e : Env) : Value := e.a10.a10
noncomputable def t170 : (Env → X) → Value → Env → X := T10 V16.s10
noncomputable def g171 (e : Env) : Value := e.a10.a11
noncomputable def t171 : (Env → X) → Value → Env → X := T10 V16.s11
noncomputable def g172 (e : Env) : Value := e.a10.a12
noncomputable def t172 : (Env → X) → Value → Env → X := T10 V16.s12
noncomputable def g173 (e : Env) : Value := e.a10.a13
noncomputable def t173 : (Env → X) → Value → Env → X := T10 V16.s13
noncomputable def g174 (e : Env) : Value := e.a10.a14
noncomputable def t174 : (Env → X) → Value → Env → X := T10 V16.s14
noncomputable def g175 (e : Env) : Value := e.a10.a15
noncomputable def t175 : (Env → X) → Value → Env → X := T10 V16.s15
noncomputable def g176 (e : Env) : Value := e.a11.a0
noncomputable def t176 : (Env → X) → Value → Env → X := T11 V16.s0
noncomputable def g177 (e : Env) : Value := e.a11.a1
noncomputable def t177 : (Env → X) → Value → Env → X := T11 V16.s1
noncomputable def g178 (e : Env) : Value := e.a11.a2
noncomputable def t178 : (Env → X) → Value → Env → X := T11 V16.s2
noncomputable def g179 (e : Env) : Value := e.a11.a3
noncomputable def t179 : (Env → X) → Value → Env → X := T11 V16.s3
noncomputable def g180 (e : Env) : Value := e.a11.a4
noncomputable def t180 : (Env → X) → Value → Env → X := T11 V16.s4
noncomputable def g181 (e : Env) : Value := e.a11.a5
noncomputable def t181 : (Env → X) → Value → Env → X := T11 V16.s5
noncomputable def g182 (e : Env) : Value := e.a11.a6
noncomputable def t182 : (Env → X) → Value → Env → X := T11 V16.s6
noncomputable def g183 (e : Env) : Value := e.a11.a7
noncomputable def t183 : (Env → X) → Value → Env → X := T11 V16.s7
noncomputable def g184 (e : Env) : Value := e.a11.a8
noncomputable def t184 : (Env → X) → Value → Env → X := T11 V16.s8
noncomputable def g185 (e : Env) : Value := e.a11.a9
noncomputable def t185 : (Env → X) → Value → Env → X := T11 V16.s9
noncomputable def g186 (e : Env) : Value := e.a11.a10
noncomputable def t186 : (Env → X) → Value → Env → X := T11 V16.s10
noncomputable def g187 (e : Env) : Value := e.a11.a11
noncomputable def t187 : (Env → X) → Value → Env → X := T11 V16.s11
noncomputable def g188 (e : Env) : Value := e.a11.a12
noncomputable def t188 : (Env → X) → Value → Env → X := T11 V16.s12
noncomputable def g189 (e : Env) : Value := e.a11.a13
noncomputable def t189 : (Env → X) → Value → Env → X := T11 V16.s13
noncomputable def g190 (e : Env) : Value := e.a11.a14
noncomputable def t190 : (Env → X) → Value → Env → X := T11 V16.s14
noncomputable def g191 (e : Env) : Value := e.a11.a15
noncomputable def t191 : (Env → X) → Value → Env → X := T11 V16.s15
noncomputable def g192 (e : Env) : Value := e.a12.a0
noncomputable def t192 : (Env → X) → Value → Env → X := T12 V16.s0
noncomputable def g193 (e : Env) : Value := e.a12.a1
noncomputable def t193 : (Env → X) → Value → Env → X := T12 V16.s1
noncomputable def g194 (e : Env) : Value := e.a12.a2
noncomputable def t194 : (Env → X) → Value → Env → X := T12 V16.s2
noncomputable def g195 (e : Env) : Value := e.a12.a3
noncomputable def t195 : (Env → X) → Value → Env → X := T12 V16.s3
noncomputable def g196 (e : Env) : Value := e.a12.a4
noncomputable def t196 : (Env → X) → Value → Env → X := T12 V16.s4
noncomputable def g197 (e : Env) : Value := e.a12.a5
noncomputable def t197 : (Env → X) → Value → Env → X := T12 V16.s5
noncomputable def g198 (e : Env) : Value := e.a12.a6
noncomputable def t198 : (Env → X) → Value → Env → X := T12 V16.s6
noncomputable def g199 (e : Env) : Value := e.a12.a7
noncomputable def t199 : (Env → X) → Value → Env → X := T12 V16.s7
noncomputable def g200 (e : Env) : Value := e.a12.a8
noncomputable def t200 : (Env → X) → Value → Env → X := T12 V16.s8
noncomputable def g201 (e : Env) : Value := e.a12.a9
noncomputable def t201 : (Env → X) → Value → Env → X := T12 V16.s9
noncomputable def g202 (e : Env) : Value := e.a12.a10
noncomputable def t202 : (Env → X) → Value → Env → X := T12 V16.s10
noncomputable def g203 (e : Env) : Value := e.a12.a11
noncomputable def t203 : (Env → X) → Value → Env → X := T12 V16.s11
noncomputable def g204 (e : Env) : Value := e.a12.a12
noncomputable def t204 : (Env → X) → Value → Env → X := T12 V16.s12
noncomputable def g205 (e : Env) : Value := e.a12.a13
noncomputable def t205 : (Env → X) → Value → Env → X := T12 V16.s13
noncomputable def g206 (e : Env) : Value := e.a12.a14
noncomputable def t206 : (Env → X) → Value → Env → X := T12 V16.s14
noncomputable def g207 (e : Env) : Value := e.a12.a15
noncomputable def t207 : (Env → X) → Value → Env → X := T12 V16.s15
noncomputable def g208 (e : Env) : Value := e.a13.a0
noncomputable def t208 : (Env → X) → Value → Env → X := T13 V16.s0
noncomputable def g209 (e : Env) : Value := e.a13.a1
noncomputable def t209 : (Env → X) → Value → Env → X := T13 V16.s1
noncomputable def g210 (e : Env) : Value := e.a13.a2
noncomputable def t210 : (Env → X) → Value → Env → X := T13 V16.s2
noncomputable def g211 (e : Env) : Value := e.a13.a3
noncomputable def t211 : (Env → X) → Value → Env → X := T13 V16.s3
noncomputable def g212 (e : Env) : Value := e.a13.a4
noncomputable def t212 : (Env → X) → Value → Env → X := T13 V16.s4
noncomputable def g213 (e : Env) : Value := e.a13.a5
noncomputable def t213 : (Env → X) → Value → Env → X := T13 V16.s5
noncomputable def g214 (e : Env) : Value := e.a13.a6
noncomputable def t214 : (Env → X) → Value → Env → X := T13 V16.s6
noncomputable def g215 (e : Env) : Value := e.a13.a7
noncomputable def t215 : (Env → X) → Value → Env → X := T13 V16.s7
noncomputable def g216 (e : Env) : Value := e.a13.a8
noncomputable def t216 : (Env → X) → Value → Env → X := T13 V16.s8
noncomputable def g217 (e : Env) : Value := e.a13.a9
noncomputable def t217 : (Env → X) → Value → Env → X := T13 V16.s9
noncomputable def g218 (e : Env) : Value := e.a13.a10
noncomputable def t218 : (Env → X) → Value → Env → X := T13 V16.s10
noncomputable def g219 (e : Env) : Value := e.a13.a11
noncomputable def t219 : (Env → X) → Value → Env → X := T13 V16.s11
noncomputable def g220 (e : Env) : Value := e.a13.a12
noncomputable def t220 : (Env → X) → Value → Env → X := T13 V16.s12
noncomputable def g221 (e : Env) : Value := e.a13.a13
noncomputable def t221 : (Env → X) → Value → Env → X := T13 V16.s13
noncomputable def g222 (e : Env) : Value := e.a13.a14
noncomputable def t222 : (Env → X) → Value → Env → X := T13 V16.s14
noncomputable def g223 (e : Env) : Value := e.a13.a15
noncomputable def t223 : (Env → X) → Value → Env → X := T13 V16.s15
noncomputable def g224 (e : Env) : Value := e.a14.a0
noncomputable def t224 : (Env → X) → Value → Env → X := T14 V16.s0
noncomputable def g225 (e : Env) : Value := e.a14.a1
noncomputable def t225 : (Env → X) → Value → Env → X := T14 V16.s1
noncomputable def g226 (e : Env) : Value := e.a14.a2
noncomputable def t226 : (Env → X) → Value → Env → X := T14 V16.s2
noncomputable def g227 (e : Env) : Value := e.a14.a3
noncomputable def t227 : (Env → X) → Value → Env → X := T14 V16.s3
noncomputable def g228 (e : Env) : Value := e.a14.a4
noncomputable def t228 : (Env → X) → Value → Env → X := T14 V16.s4
noncomputable def g229 (e : Env) : Value := e.a14.a5
noncomputable def t229 : (Env → X) → Value → Env → X := T14 V16.s5
noncomputable def g230 (e : Env) : Value := e.a14.a6
noncomputable def t230 : (Env → X) → Value → Env → X := T14 V16.s6
noncomputable def g231 (e : Env) : Value := e.a14.a7
noncomputable def t231 : (Env → X) → Value → Env → X := T14 V16.s7
noncomputable def g232 (e : Env) : Value := e.a14.a8
noncomputable def t232 : (Env → X) → Value → Env → X := T14 V16.s8
noncomputable def g233 (e : Env) : Value := e.a14.a9
noncomputable def t233 : (Env → X) → Value → Env → X := T14 V16.s9
noncomputable def g234 (e : Env) : Value := e.a14.a10
noncomputable def t234 : (Env → X) → Value → Env → X := T14 V16.s10
noncomputable def g235 (e : Env) : Value := e.a14.a11
noncomputable def t235 : (Env → X) → Value → Env → X := T14 V16.s11
noncomputable def g236 (e : Env) : Value := e.a14.a12
noncomputable def t236 : (Env → X) → Value → Env → X := T14 V16.s12
noncomputable def g237 (e : Env) : Value := e.a14.a13
noncomputable def t237 : (Env → X) → Value → Env → X := T14 V16.s13
noncomputable def g238 (e : Env) : Value := e.a14.a14
noncomputable def t238 : (Env → X) → Value → Env → X := T14 V16.s14
noncomputable def g239 (e : Env) : Value := e.a14.a15
noncomputable def t239 : (Env → X) → Value → Env → X := T14 V16.s15
noncomputable def g240 (e : Env) : Value := e.a15.a0
noncomputable def t240 : (Env → X) → Value → Env → X := T15 V16.s0
noncomputable def g241 (e : Env) : Value := e.a15.a1
noncomputable def t241 : (Env → X) → Value → Env → X := T15 V16.s1
noncomputable def g242 (e : Env) : Value := e.a15.a2
noncomputable def t242 : (Env → X) → Value → Env → X := T15 V16.s2
noncomputable def g243 (e : Env) : Value := e.a15.a3
noncomputable def t243 : (Env → X) → Value → Env → X := T15 V16.s3
noncomputable def g244 (e : Env) : Value := e.a15.a4
noncomputable def t244 : (Env → X) → Value → Env → X := T15 V16.s4
noncomputable def g245 (e : Env) : Value := e.a15.a5
noncomputable def t245 : (Env → X) → Value → Env → X := T15 V16.s5
noncomputable def g246 (e : Env) : Value := e.a15.a6
noncomputable def t246 : (Env → X) → Value → Env → X := T15 V16.s6
noncomputable def g247 (e : Env) : Value := e.a15.a7
noncomputable def t247 : (Env → X) → Value → Env → X := T15 V16.s7
noncomputable def g248 (e : Env) : Value := e.a15.a8
noncomputable def t248 : (Env → X) → Value → Env → X := T15 V16.s8
noncomputable def g249 (e : Env) : Value := e.a15.a9
noncomputable def t249 : (Env → X) → Value → Env → X := T15 V16.s9
noncomputable def g250 (e : Env) : Value := e.a15.a10
noncomputable def t250 : (Env → X) → Value → Env → X := T15 V16.s10
noncomputable def g251 (e : Env) : Value := e.a15.a11
noncomputable def t251 : (Env → X) → Value → Env → X := T15 V16.s11
noncomputable def g252 (e : Env) : Value := e.a15.a12
noncomputable def t252 : (Env → X) → Value → Env → X := T15 V16.s12
noncomputable def g253 (e : Env) : Value := e.a15.a13
noncomputable def t253 : (Env → X) → Value → Env → X := T15 V16.s13
noncomputable def g254 (e : Env) : Value := e.a15.a14
noncomputable def t254 : (Env → X) → Value → Env → X := T15 V16.s14
noncomputable def g255 (e : Env) : Value := e.a15.a15
noncomputable def t255 : (Env → X) → Value → Env → X := T15 V16.s15
noncomputable def g256 (e : Env) : Value := e.a16.a0
noncomputable def t256 : (Env → X) → Value → Env → X := T16 V16.s0
noncomputable def g257 (e : Env) : Value := e.a16.a1
noncomputable def t257 : (Env → X) → Value → Env → X := T16 V16.s1
noncomputable def g258 (e : Env) : Value := e.a16.a2
noncomputable def t258 : (Env → X) → Value → Env → X := T16 V16.s2
noncomputable def g259 (e : Env) : Value := e.a16.a3
noncomputable def t259 : (Env → X) → Value → Env → X := T16 V16.s3
noncomputable def g260 (e : Env) : Value := e.a16.a4
noncomputable def t260 : (Env → X) → Value → Env → X := T16 V16.s4
noncomputable def g261 (e : Env) : Value := e.a16.a5
noncomputable def t261 : (Env → X) → Value → Env → X := T16 V16.s5
noncomputable def g262 (e : Env) : Value := e.a16.a6
noncomputable def t262 : (Env → X) → Value → Env → X := T16 V16.s6
noncomputable def g263 (e : Env) : Value := e.a16.a7
noncomputable def t263 : (Env → X) → Value → Env → X := T16 V16.s7
noncomputable def g264 (e : Env) : Value := e.a16.a8
noncomputable def t264 : (Env → X) → Value → Env → X := T16 V16.s8
noncomputable def g265 (e : Env) : Value := e.a16.a9
noncomputable def t265 : (Env → X) → Value → Env → X := T16 V16.s9
noncomputable def g266 (e : Env) : Value := e.a16.a10
noncomputable def t266 : (Env → X) → Value → Env → X := T16 V16.s10
noncomputable def g267 (e : Env) : Value := e.a16.a11
noncomputable def t267 : (Env → X) → Value → Env → X := T16 V16.s11
noncomputable def g268 (e : Env) : Value := e.a16.a12
noncomputable def t268 : (Env → X) → Value → Env → X := T16 V16.s12
noncomputable def g269 (e : Env) : Value := e.a16.a13
noncomputable def t269 : (Env → X) → Value → Env → X := T16 V16.s13
noncomputable def g270 (e : Env) : Value := e.a16.a14
noncomputable def t270 : (Env → X) → Value → Env → X := T16 V16.s14
noncomputable def g271 (e : Env) : Value := e.a16.a15
noncomputable def t271 : (Env → X) → Value → Env → X := T16 V16.s15
noncomputable def g272 (e : Env) : Value := e.a17.a0
noncomputable def t272 : (Env → X) → Value → Env → X := T17 V16.s0
noncomputable def g273 (e : Env) : Value := e.a17.a1
noncomputable def t273 : (Env → X) → Value → Env → X := T17 V16.s1
noncomputable def g274 (e : Env) : Value := e.a17.a2
noncomputable def t274 : (Env → X) → Value → Env → X := T17 V16.s2
noncomputable def g275 (e : Env) : Value := e.a17.a3
noncomputable def t275 : (Env → X) → Value → Env → X := T17 V16.s3
noncomputable def g276 (e : Env) : Value := e.a17.a4
noncomputable def t276 : (Env → X) → Value → Env → X := T17 V16.s4
noncomputable def g277 (e : Env) : Value := e.a17.a5
noncomputable def t277 : (Env → X) → Value → Env → X := T17 V16.s5
noncomputable def g278 (e : Env) : Value := e.a17.a6
noncomputable def t278 : (Env → X) → Value → Env → X := T17 V16.s6
noncomputable def g279 (e : Env) : Value := e.a17.a7
noncomputable def t279 : (Env → X) → Value → Env → X := T17 V16.s7
noncomputable def g280 (e : Env) : Value := e.a17.a8
noncomputable def t280 : (Env → X) → Value → Env → X := T17 V16.s8
noncomputable def g281 (e : Env) : Value := e.a17.a9
noncomputable def t281 : (Env → X) → Value → Env → X := T17 V16.s9
noncomputable def g282 (e : Env) : Value := e.a17.a10
noncomputable def t282 : (Env → X) → Value → Env → X := T17 V16.s10
noncomputable def g283 (e : Env) : Value := e.a17.a11
noncomputable def t283 : (Env → X) → Value → Env → X := T17 V16.s11
noncomputable def g284 (e : Env) : Value := e.a17.a12
noncomputable def t284 : (Env → X) → Value → Env → X := T17 V16.s12
noncomputable def g285 (e : Env) : Value := e.a17.a13
noncomputable def t285 : (Env → X) → Value → Env → X := T17 V16.s13
noncomputable def g286 (e : Env) : Value := e.a17.a14
noncomputable def t286 : (Env → X) → Value → Env → X := T17 V16.s14
noncomputable def g287 (e : Env) : Value := e.a17.a15
noncomputable def t287 : (Env → X) → Value → Env → X := T17 V16.s15
noncomputable def g288 (e : Env) : Value := e.a18.a0
noncomputable def t288 : (Env → X) → Value → Env → X := T18 V16.s0
noncomputable def g289 (e : Env) : Value := e.a18.a1
noncomputable def t289 : (Env → X) → Value → Env → X := T18 V16.s1
noncomputable def g290 (e : Env) : Value := e.a18.a2
noncomputable def t290 : (Env → X) → Value → Env → X := T18 V16.s2
noncomputable def g291 (e : Env) : Value := e.a18.a3
noncomputable def t291 : (Env → X) → Value → Env → X := T18 V16.s3
noncomputable def g292 (e : Env) : Value := e.a18.a4
noncomputable def t292 : (Env → X) → Value → Env → X := T18 V16.s4
noncomputable def g293 (e : Env) : Value := e.a18.a5
noncomputable def t293 : (Env → X) → Value → Env → X := T18 V16.s5
noncomputable def g294 (e : Env) : Value := e.a18.a6
noncomputable def t294 : (Env → X) → Value → Env → X := T18 V16.s6
noncomputable def g295 (e : Env) : Value := e.a18.a7
noncomputable def t295 : (Env → X) → Value → Env → X := T18 V16.s7
noncomputable def g296 (e : Env) : Value := e.a18.a8
noncomputable def t296 : (Env → X) → Value → Env → X := T18 V16.s8
noncomputable def g297 (e : Env) : Value := e.a18.a9
noncomputable def t297 : (Env → X) → Value → Env → X := T18 V16.s9
noncomputable def g298 (e : Env) : Value := e.a18.a10
noncomputable def t298 : (Env → X) → Value → Env → X := T18 V16.s10
noncomputable def g299 (e : Env) : Value := e.a18.a11
noncomputable def t299 : (Env → X) → Value → Env → X := T18 V16.s11
noncomputable def g300 (e : Env) : Value := e.a18.a12
noncomputable def t300 : (Env → X) → Value → Env → X := T18 V16.s12
noncomputable def g301 (e : Env) : Value := e.a18.a13
noncomputable def t301 : (Env → X) → Value → Env → X := T18 V16.s13
noncomputable def g302 (e : Env) : Value := e.a18.a14
noncomputable def t302 : (Env → X) → Value → Env → X := T18 V16.s14
noncomputable def g303 (e : Env) : Value := e.a18.a15
noncomputable def t303 : (Env → X) → Value → Env → X := T18 V16.s15
noncomputable def g304 (e : Env) : Value := e.a19.a0
noncomputable def t304 : (Env → X) → Value → Env → X := T19 V16.s0
noncomputable def g305 (e : Env) : Value := e.a19.a1
noncomputable def t305 : (Env → X) → Value → Env → X := T19 V16.s1
noncomputable def g306 (e : Env) : Value := e.a19.a2
noncomputable def t306 : (Env → X) → Value → Env → X := T19 V16.s2
noncomputable def g307 (e : Env) : Value := e.a19.a3
noncomputable def t307 : (Env → X) → Value → Env → X := T19 V16.s3
noncomputable def g308 (e : Env) : Value := e.a19.a4
noncomputable def t308 : (Env → X) → Value → Env → X := T19 V16.s4
noncomputable def g309 (e : Env) : Value := e.a19.a5
noncomputable def t309 : (Env → X) → Value → Env → X := T19 V16.s5
noncomputable def g310 (e : Env) : Value := e.a19.a6
noncomputable def t310 : (Env → X) → Value → Env → X := T19 V16.s6
noncomputable def g311 (e : Env) : Value := e.a19.a7
noncomputable def t311 : (Env → X) → Value → Env → X := T19 V16.s7
noncomputable def g312 (e : Env) : Value := e.a19.a8
noncomputable def t312 : (Env → X) → Value → Env → X := T19 V16.s8
noncomputable def g313 (e : Env) : Value := e.a19.a9
noncomputable def t313 : (Env → X) → Value → Env → X := T19 V16.s9
noncomputable def g314 (e : Env) : Value := e.a19.a10
noncomputable def t314 : (Env → X) → Value → Env → X := T19 V16.s10
noncomputable def g315 (e : Env) : Value := e.a19.a11
noncomputable def t315 : (Env → X) → Value → Env → X := T19 V16.s11
noncomputable def g316 (e : Env) : Value := e.a19.a12
noncomputable def t316 : (Env → X) → Value → Env → X := T19 V16.s12
noncomputable def g317 (e : Env) : Value := e.a19.a13
noncomputable def t317 : (Env → X) → Value → Env → X := T19 V16.s13
noncomputable def g318 (e : Env) : Value := e.a19.a14
noncomputable def t318 : (Env → X) → Value → Env → X := T19 V16.s14
noncomputable def g319 (e : Env) : Value := e.a19.a15
noncomputable def t319 : (Env → X) → Value → Env → X := T19 V16.s15
noncomputable def v0 : V16 := (.mk noRes noRes noRes noRes noRes noRes noRes noRes noRes noRes noRes noRes noRes noRes noRes noRes)
noncomputable def e0 : Env := .mk v0 v0 v0 v0 v0 v0 v0 v0 v0 v0 v0 v0 v0 v0 v0 v0 v0 v0 v0 v0
noncomputable def slotG : Nat → Env → Value
  | 0 => g0
  | 1 => g1
  | 2 => g2
  | 3 => g3
  | 4 => g4
  | 5 => g5
  | 6 => g6
  | 7 => g7
  | 8 => g8
  | 9 => g9
  | 10 => g10
  | 11 => g11
  | 12 => g12
  | 13 => g13
  | 14 => g14
  | 15 => g15
  | 16 => g16
  | 17 => g17
  | 18 => g18
  | 19 => g19
  | 20 => g20
  | 21 => g21
  | 22 => g22
  | 23 => g23
  | 24 => g24
  | 25 => g25
  | 26 => g26
  | 27 => g27
  | 28 => g28
  | 29 => g29
  | 30 => g30
  | 31 => g31
  | 32 => g32
  | 33 => g33
  | 34 => g34
  | 35 => g35
  | 36 => g36
  | 37 => g37
  | 38 => g38
  | 39 => g39
  | 40 => g40
  | 41 => g41
  | 42 => g42
  | 43 => g43
  | 44 => g44
  | 45 => g45
  | 46 => g46
  | 47 => g47
  | 48 => g48
  | 49 => g49
  | 50 => g50
  | 51 => g51
  | 52 => g52
  | 53 => g53
  | 54 => g54
  | 55 => g55
  | 56 => g56
  | 57 => g57
  | 58 => g58
  | 59 => g59
  | 60 => g60
  | 61 => g61
  | 62 => g62
  | 63 => g63
  | 64 => g64
  | 65 => g65
  | 66 => g66
  | 67 => g67
  | 68 => g68
  | 69 => g69
  | 70 => g70
  | 71 => g71
  | 72 => g72
  | 73 => g73
  | 74 => g74
  | 75 => g75
  | 76 => g76
  | 77 => g77
  | 78 => g78
  | 79 => g79
  | 80 => g80
  | 81 => g81
  | 82 => g82
  | 83 => g83
  | 84 => g84
  | 85 => g85
  | 86 => g86
  | 87 => g87
  | 88 => g88
  | 89 => g89
  | 90 => g90
  | 91 => g91
  | 92 => g92
  | 93 => g93
  | 94 => g94
  | 95 => g95
  | 96 => g96
  | 97 => g97
  | 98 => g98
  | 99 => g99
  | 100 => g100
  | 101 => g101
  | 102 => g102
  | 103 => g103
  | 104 => g104
  | 105 => g105
  | 106 => g106
  | 107 => g107
  | 108 => g108
  | 109 => g109
  | 110 => g110
  | 111 => g111
  | 112 => g112
  | 113 => g113
  | 114 => g114
  | 115 => g115
  | 116 => g116
  | 117 => g117
  | 118 => g118
  | 119 => g119
  | 120 => g120
  | 121 => g121
  | 122 => g122
  | 123 => g123
  | 124 => g124
  | 125 => g125
  | 126 => g126
  | 127 => g127
  | 128 => g128
  | 129 => g129
  | 130 => g130
  | 131 => g131
  | 132 => g132
  | 133 => g133
  | 134 => g134
  | 135 => g135
  | 136 => g136
  | 137 => g137
  | 138 => g138
  | 139 => g139
  | 140 => g140
  | 141 => g141
  | 142 => g142
  | 143 => g143
  | 144 => g144
  | 145 => g145
  | 146 => g146
  | 147 => g147
  | 148 => g148
  | 149 => g149
  | 150 => g150
  | 151 => g151
  | 152 => g152
  | 153 => g153
  | 154 => g154
  | 155 => g155
  | 156 => g156
  | 157 => g157
  | 158 => g158
  | 159 => g159
  | 160 => g160
  | 161 => g161
  | 162 => g162
  | 163 => g163
  | 164 => g164
  | 165 => g165
  | 166 => g166
  | 167 => g167
  | 168 => g168
  | 169 => g169
  | 170 => g170
  | 171 => g171
  | 172 => g172
  | 173 => g173
  | 174 => g174
  | 175 => g175
  | 176 => g176
  | 177 => g177
  | 178 => g178
  | 179 => g179
  | 180 => g180
  | 181 => g181
  | 182 => g182
  | 183 => g183
  | 184 => g184
  | 185 => g185
  | 186 => g186
  | 187 => g187
  | 188 => g188
  | 189 => g189
  | 190 => g190
  | 191 => g191
  | 192 => g192
  | 193 => g193
  | 194 => g194
  | 195 => g195
  | 196 => g196
  | 197 => g197
  | 198 => g198
  | 199 => g199
  | 200 => g200
  | 201 => g201
  | 202 => g202
  | 203 => g203
  | 204 => g204
  | 205 => g205
  | 206 => g206
  | 207 => g207
  | 208 => g208
  | 209 => g209
  | 210 => g210
  | 211 => g211
  | 212 => g212
  | 213 => g213
  | 214 => g214
  | 215 => g215
  | 216 => g216
  | 217 => g217
  | 218 => g218
  | 219 => g219
  | 220 => g220
  | 221 => g221
  | 222 => g222
  | 223 => g223
  | 224 => g224
  | 225 => g225
  | 226 => g226
  | 227 => g227
  | 228 => g228
  | 229 => g229
  | 230 => g230
  | 231 => g231
  | 232 => g232
  | 233 => g233
  | 234 => g234
  | 235 => g235
  | 236 => g236
  | 237 => g237
  | 238 => g238
  | 239 => g239
  | 240 => g240
  | 241 => g241
  | 242 => g242
  | 243 => g243
  | 244 => g244
  | 245 => g245
  | 246 => g246
  | 247 => g247
  | 248 => g248
  | 249 => g249
  | 250 => g250
  | 251 => g251
  | 252 => g252
  | 253 => g253
  | 254 => g254
  | 255 => g255
  | 256 => g256
  | 257 => g257
  | 258 => g258
  | 259 => g259
  | 260 => g260
  | 261 => g261
  | 262 => g262
  | 263 => g263
  | 264 => g264
  | 265 => g265
  | 266 => g266
  | 267 => g267
  | 268 => g268
  | 269 => g269
  | 270 => g270
  | 271 => g271
  | 272 => g272
  | 273 => g273
  | 274 => g274
  | 275 => g275
  | 276 => g276
  | 277 => g277
  | 278 => g278
  | 279 => g279
  | 280 => g280
  | 281 => g281
  | 282 => g282
  | 283 => g283
  | 284 => g284
  | 285 => g285
  | 286 => g286
  | 287 => g287
  | 288 => g288
  | 289 => g289
  | 290 => g290
  | 291 => g291
  | 292 => g292
  | 293 => g293
  | 294 => g294
  | 295 => g295
  | 296 => g296
  | 297 => g297
  | 298 => g298
  | 299 => g299
  | 300 => g300
  | 301 => g301
  | 302 => g302
  | 303 => g303
  | 304 => g304
  | 305 => g305
  | 306 => g306
  | 307 => g307
  | 308 => g308
  | 309 => g309
  | 310 => g310
  | 311 => g311
  | 312 => g312
  | 313 => g313
  | 314 => g314
  | 315 => g315
  | 316 => g316
  | 317 => g317
  | 318 => g318
  | _ => g319
noncomputable def slotT : Nat → (Env → X) → Value → Env → X
  | 0 => t0
  | 1 => t1
  | 2 => t2
  | 3 => t3
  | 4 => t4
  | 5 => t5
  | 6 => t6
  | 7 => t7
  | 8 => t8
  | 9 => t9
  | 10 => t10
  | 11 => t11
  | 12 => t12
  | 13 => t13
  | 14 => t14
  | 15 => t15
  | 16 => t16
  | 17 => t17
  | 18 => t18
  | 19 => t19
  | 20 => t20
  | 21 => t21
  | 22 => t22
  | 23 => t23
  | 24 => t24
  | 25 => t25
  | 26 => t26
  | 27 => t27
  | 28 => t28
  | 29 => t29
  | 30 => t30
  | 31 => t31
  | 32 => t32
  | 33 => t33
  | 34 => t34
  | 35 => t35
  | 36 => t36
  | 37 => t37
  | 38 => t38
  | 39 => t39
  | 40 => t40
  | 41 => t41
  | 42 => t42
  | 43 => t43
  | 44 => t44
  | 45 => t45
  | 46 => t46
  | 47 => t47
  | 48 => t48
  | 49 => t49
  | 50 => t50
  | 51 => t51
  | 52 => t52
  | 53 => t53
  | 54 => t54
  | 55 => t55
  | 56 => t56
  | 57 => t57
  | 58 => t58
  | 59 => t59
  | 60 => t60
  | 61 => t61
  | 62 => t62
  | 63 => t63
  | 64 => t64
  | 65 => t65
  | 66 => t66
  | 67 => t67
  | 68 => t68
  | 69 => t69
  | 70 => t70
  | 71 => t71
  | 72 => t72
  | 73 => t73
  | 74 => t74
  | 75 => t75
  | 76 => t76
  | 77 => t77
  | 78 => t78
  | 79 => t79
  | 80 => t80
  | 81 => t81
  | 82 => t82
  | 83 => t83
  | 84 => t84
  | 85 => t85
  | 86 => t86
  | 87 => t87
  | 88 => t88
  | 89 => t89
  | 90 => t90
  | 91 => t91
  | 92 => t92
  | 93 => t93
  | 94 => t94
  | 95 => t95
  | 96 => t96
  | 97 => t97
  | 98 => t98
  | 99 => t99
  | 100 => t100
  | 101 => t101
  | 102 => t102
  | 103 => t103
  | 104 => t104
  | 105 => t105
  | 106 => t106
  | 107 => t107
  | 108 => t108
  | 109 => t109
  | 110 => t110
  | 111 => t111
  | 112 => t112
  | 113 => t113
  | 114 => t114
  | 115 => t115
  | 116 => t116
  | 117 => t117
  | 118 => t118
  | 119 => t119
  | 120 => t120
  | 121 => t121
  | 122 => t122
  | 123 => t123
  | 124 => t124
  | 125 => t125
  | 126 => t126
  | 127 => t127
  | 128 => t128
  | 129 => t129
  | 130 => t130
  | 131 => t131
  | 132 => t132
  | 133 => t133
  | 134 => t134
  | 135 => t135
  | 136 => t136
  | 137 => t137
  | 138 => t138
  | 139 => t139
  | 140 => t140
  | 141 => t141
  | 142 => t142
  | 143 => t143
  | 144 => t144
  | 145 => t145
  | 146 => t146
  | 147 => t147
  | 148 => t148
  | 149 => t149
  | 150 => t150
  | 151 => t151
  | 152 => t152
  | 153 => t153
  | 154 => t154
  | 155 => t155
  | 156 => t156
  | 157 => t157
  | 158 => t158
  | 159 => t159
  | 160 => t160
  | 161 => t161
  | 162 => t162
  | 163 => t163
  | 164 => t164
  | 165 => t165
  | 166 => t166
  | 167 => t167
  | 168 => t168
  | 169 => t169
  | 170 => t170
  | 171 => t171
  | 172 => t172
  | 173 => t173
  | 174 => t174
  | 175 => t175
  | 176 => t176
  | 177 => t177
  | 178 => t178
  | 179 => t179
  | 180 => t180
  | 181 => t181
  | 182 => t182
  | 183 => t183
  | 184 => t184
  | 185 => t185
  | 186 => t186
  | 187 => t187
  | 188 => t188
  | 189 => t189
  | 190 => t190
  | 191 => t191
  | 192 => t192
  | 193 => t193
  | 194 => t194
  | 195 => t195
  | 196 => t196
  | 197 => t197
  | 198 => t198
  | 199 => t199
  | 200 => t200
  | 201 => t201
  | 202 => t202
  | 203 => t203
  | 204 => t204
  | 205 => t205
  | 206 => t206
  | 207 => t207
  | 208 => t208
  | 209 => t209
  | 210 => t210
  | 211 => t211
  | 212 => t212
  | 213 => t213
  | 214 => t214
  | 215 => t215
  | 216 => t216
  | 217 => t217
  | 218 => t218
  | 219 => t219
  | 220 => t220
  | 221 => t221
  | 222 => t222
  | 223 => t223
  | 224 => t224
  | 225 => t225
  | 226 => t226
  | 227 => t227
  | 228 => t228
  | 229 => t229
  | 230 => t230
  | 231 => t231
  | 232 => t232
  | 233 => t233
  | 234 => t234
  | 235 => t235
  | 236 => t236
  | 237 => t237
  | 238 => t238
  | 239 => t239
  | 240 => t240
  | 241 => t241
  | 242 => t242
  | 243 => t243
  | 244 => t244
  | 245 => t245
  | 246 => t246
  | 247 => t247
  | 248 => t248
  | 249 => t249
  | 250 => t250
  | 251 => t251
  | 252 => t252
  | 253 => t253
  | 254 => t254
  | 255 => t255
  | 256 => t256
  | 257 => t257
  | 258 => t258
  | 259 => t259
  | 260 => t260
  | 261 => t261
  | 262 => t262
  | 263 => t263
  | 264 => t264
  | 265 => t265
  | 266 => t266
  | 267 => t267
  | 268 => t268
  | 269 => t269
  | 270 => t270
  | 271 => t271
  | 272 => t272
  | 273 => t273
  | 274 => t274
  | 275 => t275
  | 276 => t276
  | 277 => t277
  | 278 => t278
  | 279 => t279
  | 280 => t280
  | 281 => t281
  | 282 => t282
  | 283 => t283
  | 284 => t284
  | 285 => t285
  | 286 => t286
  | 287 => t287
  | 288 => t288
  | 289 => t289
  | 290 => t290
  | 291 => t291
  | 292 => t292
  | 293 => t293
  | 294 => t294
  | 295 => t295
  | 296 => t296
  | 297 => t297
  | 298 => t298
  | 299 => t299
  | 300 => t300
  | 301 => t301
  | 302 => t302
  | 303 => t303
  | 304 => t304
  | 305 => t305
  | 306 => t306
  | 307 => t307
  | 308 => t308
  | 309 => t309
  | 310 => t310
  | 311 => t311
  | 312 => t312
  | 313 => t313
  | 314 => t314
  | 315 => t315
  | 316 => t316
  | 317 => t317
  | 318 => t318
  | _ => t319
end Go.Proofs.Ytkafejncffinmaa

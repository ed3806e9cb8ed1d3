/-
  Short words for what pieces are printed with.
-/
import Derived.Test.YtokpmjbljhkeiaaGreatMemo
namespace Go.Proofs.YtokpmjbljhkeiaaGreat
open Go
noncomputable def i (n : Nat) : Value := .int .i64 (.ofNat n)
noncomputable def u (n : Nat) : Value := .int .u8 (.ofNat n)
noncomputable def bytesL : List Nat → List UInt8
  | [] => []
  | n :: l => UInt8.ofNat n :: bytesL l
noncomputable def sb (l : List Nat) : Value := .string ⟨⟨bytesL l⟩⟩
noncomputable def iL : List Nat → List Value
  | [] => []
  | n :: l => i n :: iL l
noncomputable def uL : List Nat → List Value
  | [] => []
  | n :: l => u n :: uL l
noncomputable def seqL (a : Nat) : Nat → List Value
  | 0 => []
  | n + 1 => forceN a fun a => i a :: seqL (Nat.succ a) n
/-- each other of a list, the first among them or not -/
noncomputable def halfL : Bool → List Value → List Value
  | _, [] => []
  | t, x :: l => match t with
    | true => x :: halfL false l
    | false => halfL true l
/-- a tree of a list -/
noncomputable def vT : Nat → List Value → VT
  | 0, _ => .mt
  | _, [] => .mt
  | n + 1, x :: l => .nd x (vT n (halfL true l)) (vT n (halfL false l))
/-- a tree of ascending numbers -/
noncomputable def seqT : Nat → Nat → Nat → Nat → VT
  | 0, _, _, _ => .mt
  | f + 1, a, s, n => forceN n fun n => match n with
    | 0 => .mt
    | Nat.succ m => forceN a fun a => forceN (Nat.mul 2 s) fun t => .nd (i a) (seqT f (Nat.add a s) t (Nat.div (Nat.succ m) 2)) (seqT f (Nat.add a t) t (Nat.div m 2))
noncomputable def seqB (a n e : Nat) : Blk := .cells (seqT 24 a 1 n) n e
noncomputable def cellsB (l : List Value) (n e : Nat) : Blk := .cells (vT 24 l) n e
theorem memNil {p : Piece → Prop} : ∀ x ∈ ([] : List Piece), p x := fun _ h => by cases h
theorem memCons {p : Piece → Prop} {x : Piece} {l : List Piece} (h : p x) (t : ∀ y ∈ l, p y) : ∀ y ∈ x :: l, p y := fun y hy => by
  rcases List.mem_cons.1 hy with rfl | hy
  · exact h
  · exact t y hy
end Go.Proofs.YtokpmjbljhkeiaaGreat

/-
  Short words for what pieces are printed with.
-/
import Derived.Test.YtokpmjbljhkeiaaGreatMemo
namespace Go.Proofs.YtokpmjbljhkeiaaGreat
open Go
noncomputable def i (n : Nat) : Value := .int .i64 (.ofNat n)
noncomputable def u (n : Nat) : Value := .int .u8 (.ofNat n)
noncomputable def bytesL : List Nat → List UInt8
  | [] => []
  | n :: l => UInt8.ofNat n :: bytesL l
noncomputable def sb (l : List Nat) : Value := .string ⟨⟨bytesL l⟩⟩
noncomputable def iL : List Nat → List Value
  | [] => []
  | n :: l => i n :: iL l
noncomputable def uL : List Nat → List Value
  | [] => []
  | n :: l => u n :: uL l
noncomputable def seqL (a : Nat) : Nat → List Value
  | 0 => []
  | n + 1 => forceN a fun a => i a :: seqL (Nat.succ a) n
/-- a tree of a list, row by row from the last one up -/
noncomputable def hdT : List VT → VT
  | [] => .mt
  | t :: _ => t
noncomputable def tlT : List VT → List VT
  | [] => []
  | _ :: l => l
noncomputable def zipT : List Value → List VT → List VT → List VT
  | [], _, _ => []
  | x :: l, a, b => .nd x (hdT a) (hdT b) :: zipT l (tlT a) (tlT b)
noncomputable def rowsT : Nat → Nat → List Value → List VT
  | 0, _, _ => []
  | f + 1, k, l => match l with
    | [] => []
    | x :: r => forceN (Nat.mul 2 k) fun q => zipT (takeL k (x :: r)) (rowsT f q (dropL k (x :: r))) (dropL k (rowsT f q (dropL k (x :: r))))
noncomputable def vT (n : Nat) (l : List Value) : VT := hdT (rowsT n 1 l)
/-- a tree of ascending numbers -/
noncomputable def seqT : Nat → Nat → Nat → Nat → VT
  | 0, _, _, _ => .mt
  | f + 1, a, s, n => forceN n fun n => match n with
    | 0 => .mt
    | Nat.succ m => forceN a fun a => forceN (Nat.mul 2 s) fun t => .nd (i a) (seqT f (Nat.add a s) t (Nat.div (Nat.succ m) 2)) (seqT f (Nat.add a t) t (Nat.div m 2))
noncomputable def seqB (a n e : Nat) : Blk := .cells (seqT 24 a 1 n) n e
noncomputable def cellsB (l : List Value) (n e : Nat) : Blk := .cells (vT 24 l) n e
/-- a great row out of an earlier one: what differs, from where on -/
noncomputable def patchT : List (Nat × List Value) → VT → VT
  | [], t => t
  | x :: r, t => match setAll t x.1 x.2 with
    | some t => patchT r t
    | none => .mt
noncomputable def treeOfB : Blk → VT
  | .cells c _ _ => c
  | _ => .mt
noncomputable def patchB (b : Blk) (l : List (Nat × List Value)) (n e : Nat) : Blk := .cells (patchT l (treeOfB b)) n e
theorem memNil {p : Piece → Prop} : ∀ x ∈ ([] : List Piece), p x := fun _ h => by cases h
theorem memCons {p : Piece → Prop} {x : Piece} {l : List Piece} (h : p x) (t : ∀ y ∈ l, p y) : ∀ y ∈ x :: l, p y := fun y hy => by
  rcases List.mem_cons.1 hy with rfl | hy
  · exact h
  · exact t y hy
end Go.Proofs.YtokpmjbljhkeiaaGreat

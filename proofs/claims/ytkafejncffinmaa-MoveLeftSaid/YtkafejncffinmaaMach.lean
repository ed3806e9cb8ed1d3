/-
  THE CANONICAL MACHINE: one run of a program on an abstract heap: an append that has no room moves to a new block and the old one dies,
  a region's operations go in the order of the text. All is made for the kernel's own reckoning. What it is worth is said in the text Sound.
-/
import Derived.Test.YtkafejncffinmaaEnv
import Derived.Calls
import Derived.KernelRfl
namespace Go.Proofs.Ytkafejncffinmaa
open Go

/-- what a type is, as far as the machine asks -/
inductive TK where
  | int (k : IntKind) | bool | string
  | ptr (e : Nat) | slice (e : Nat) | arr (n e : Nat) | map (k e : Nat)
  | struct (fs : List (Nat × Nat × Nat))
  | iface | func | other

structure TI where
  k : TK
  size : Nat
  bytes : Nat
  zero : List Value
  ms : List (String × Nat)

noncomputable def TK.agg : TK → Bool
  | .arr .. | .struct .. => true
  | _ => false

inductive R where
  | ok (v : Value) (h : Hp)
  | no

noncomputable def forceN {β : Type} (m : Nat) (k : Nat → β) : β := Nat.rec (motive := fun _ => β) (k 0) (fun j _ => k (Nat.succ j)) m
noncomputable def forceI {β : Type} (i : Int) (k : Int → β) : β := Int.rec (motive := fun _ => β) (fun m => forceN m fun m => k (.ofNat m)) (fun m => forceN m fun m => k (.negSucc m)) i
-- LEAVES1 BEGIN
/-- a value, laid open to its head -/
noncomputable def forceV (v : Value) (k : Value → R) : R := (Value.rec (motive_1 := fun _ => (Value → R) → R) (motive_2 := fun _ => Unit) (motive_3 := fun _ => Unit)
  (fun x0 k => k (.bool x0)) (fun x0 x1 k => k (.int x0 x1)) (fun x0 x1 k => k (.float x0 x1)) (fun x0 x1 x2 k => k (.complex x0 x1 x2)) (fun x0 k => k (.string x0)) (fun x0 k => k (.pointer x0)) (fun x0 x1 x2 k => k (.slice x0 x1 x2)) (fun x0 k => k (.map x0)) (fun x0 k => k (.chan x0)) (fun x0 x1 x2 _ _ k => k (.func x0 x1 x2)) (fun k => k .nilFunc) (fun x0 x1 _ k => k (.iface x0 x1)) (fun k => k .nilIface) (fun x0 _ k => k (.agg x0)) (fun x0 _ k => k (.tuple x0))
  (fun _ _ => ()) () (fun _ _ _ _ => ()) v : (Value → R) → R) k
/-- a value as a result -/
noncomputable def moveR (v : Value) (h : Hp) : R := (Value.rec (motive_1 := fun _ => Hp → R) (motive_2 := fun _ => Unit) (motive_3 := fun _ => Unit)
  (fun x0 h => .ok (.bool x0) h) (fun x0 x1 h => .ok (.int x0 x1) h) (fun x0 x1 h => .ok (.float x0 x1) h) (fun x0 x1 x2 h => .ok (.complex x0 x1 x2) h) (fun x0 h => .ok (.string x0) h) (fun x0 h => .ok (.pointer x0) h) (fun x0 x1 x2 h => .ok (.slice x0 x1 x2) h) (fun x0 h => .ok (.map x0) h) (fun x0 h => .ok (.chan x0) h) (fun x0 x1 x2 _ _ h => .ok (.func x0 x1 x2) h) (fun h => .ok .nilFunc h) (fun x0 x1 _ h => .ok (.iface x0 x1) h) (fun h => .ok .nilIface h) (fun x0 _ h => .ok (.agg x0) h) (fun x0 _ h => .ok (.tuple x0) h)
  (fun _ _ => ()) () (fun _ _ _ _ => ()) v : Hp → R) h
noncomputable def forceL (l : List Value) (k : List Value → R) : R := (List.rec (motive := fun _ => (List Value → R) → R) (fun k => k []) (fun v _ ih k => forceV v fun v => ih fun l => k (v :: l)) l : (List Value → R) → R) k
-- LEAVES1 END

noncomputable def iLt (a b : Int) : Bool := (Int.rec (motive := fun _ => Int → Bool) (fun a b => (Int.rec (motive := fun _ => Nat → Bool) (fun b a => Nat.blt a b) (fun _ _ => false) b : Nat → Bool) a)
  (fun a b => (Int.rec (motive := fun _ => Nat → Bool) (fun _ _ => true) (fun b a => Nat.blt b a) b : Nat → Bool) a) a : Int → Bool) b
noncomputable def iGt (a b : Int) : Bool := iLt b a
noncomputable def iLe (a b : Int) : Bool := !iLt b a
noncomputable def iGe (a b : Int) : Bool := !iLt a b
noncomputable def iEq (a b : Int) : Bool := (Int.rec (motive := fun _ => Int → Bool) (fun a b => (Int.rec (motive := fun _ => Nat → Bool) (fun b a => Nat.beq a b) (fun _ _ => false) b : Nat → Bool) a)
  (fun a b => (Int.rec (motive := fun _ => Nat → Bool) (fun _ _ => false) (fun b a => Nat.beq a b) b : Nat → Bool) a) a : Int → Bool) b
noncomputable def iNe (a b : Int) : Bool := !iEq a b
noncomputable def topOf (k : IntKind) : Nat := IntKind.rec (motive := fun _ => Nat) 127 32767 2147483647 9223372036854775807 255 65535 4294967295 18446744073709551615 k
noncomputable def wrapF (k : IntKind) (n : Int) : Int := (Int.rec (motive := fun _ => IntKind → Int) (fun m k => Bool.rec (motive := fun _ => Int) (k.wrap (.ofNat m)) (.ofNat m) (Nat.ble m (topOf k))) (fun m k => k.wrap (.negSucc m)) n : IntKind → Int) k

noncomputable def okB (b : Bool) (h : Hp) : R := Bool.rec (motive := fun _ => R) (.ok (.bool false) h) (.ok (.bool true) h) b
noncomputable def okI (k : IntKind) (n : Int) (h : Hp) : R := (Int.rec (motive := fun _ => IntKind → Hp → R)
  (fun m k h => (Nat.rec (motive := fun _ => IntKind → Hp → R) (fun k h => .ok (.int k (.ofNat 0)) h) (fun j _ k h => .ok (.int k (.ofNat (Nat.succ j))) h) m : IntKind → Hp → R) k h)
  (fun m k h => forceN m fun m => .ok (.int k (.negSucc m)) h) n : IntKind → Hp → R) k h

/-- an operand: a slot's getter, or a value -/
abbrev O := Env → Value
noncomputable def kV (v : Value) : O := fun _ => v
noncomputable def vals (e : Env) : List O → List Value
  | [] => []
  | x :: l => x e :: vals e l

-- LEAVES2 BEGIN
/-- numbers and addresses out of values -/
inductive NI where
  | no
  | ok (n : Int)
inductive NN where
  | no
  | ok (n : Nat)
inductive AA where
  | no
  | ok (a : Addr)
noncomputable def intV (v : Value) : NI := (Value.rec (motive_1 := fun _ => NI) (motive_2 := fun _ => Unit) (motive_3 := fun _ => Unit)
  (fun _ => .no) (fun _ x1 => .ok x1) (fun _ _ => .no) (fun _ _ _ => .no) (fun _ => .no) (fun _ => .no) (fun _ _ _ => .no) (fun _ => .no) (fun _ => .no) (fun _ _ _ _ _ => .no) (.no) (fun _ _ _ => .no) (.no) (fun _ _ => .no) (fun _ _ => .no)
  (fun _ _ => ()) () (fun _ _ _ _ => ()) v : NI)
noncomputable def natV (v : Value) : NN := (Value.rec (motive_1 := fun _ => NN) (motive_2 := fun _ => Unit) (motive_3 := fun _ => Unit)
  (fun _ => .no) (fun _ x1 => Int.rec (motive := fun _ => NN) (fun m => .ok m) (fun _ => .no) x1) (fun _ _ => .no) (fun _ _ _ => .no) (fun _ => .no) (fun _ => .no) (fun _ _ _ => .no) (fun _ => .no) (fun _ => .no) (fun _ _ _ _ _ => .no) (.no) (fun _ _ _ => .no) (.no) (fun _ _ => .no) (fun _ _ => .no)
  (fun _ _ => ()) () (fun _ _ _ _ => ()) v : NN)
noncomputable def codeK (k : IntKind) : Nat := IntKind.rec (motive := fun _ => Nat) 0 1 2 3 4 5 6 7 k
/-- is it the same kind? -/
noncomputable def sameK (a b : IntKind) : Bool := Nat.beq (codeK a) (codeK b)
noncomputable def intKV (v : Value) (k : IntKind) : NI := (Value.rec (motive_1 := fun _ => IntKind → NI) (motive_2 := fun _ => Unit) (motive_3 := fun _ => Unit)
  (fun _ _ => .no) (fun x0 x1 k => Bool.rec (motive := fun _ => NI) .no (.ok x1) (sameK k x0)) (fun _ _ _ => .no) (fun _ _ _ _ => .no) (fun _ _ => .no) (fun _ _ => .no) (fun _ _ _ _ => .no) (fun _ _ => .no) (fun _ _ => .no) (fun _ _ _ _ _ _ => .no) (fun _ => .no) (fun _ _ _ _ => .no) (fun _ => .no) (fun _ _ _ => .no) (fun _ _ _ => .no)
  (fun _ _ => ()) () (fun _ _ _ _ => ()) v : IntKind → NI) k
noncomputable def intK (k : IntKind) (v : Value) : NI := intKV v k
noncomputable def natKV (v : Value) (k : IntKind) : NN := (Value.rec (motive_1 := fun _ => IntKind → NN) (motive_2 := fun _ => Unit) (motive_3 := fun _ => Unit)
  (fun _ _ => .no) (fun x0 x1 k => Bool.rec (motive := fun _ => NN) .no (Int.rec (motive := fun _ => NN) (fun m => .ok m) (fun _ => .no) x1) (sameK k x0)) (fun _ _ _ => .no) (fun _ _ _ _ => .no) (fun _ _ => .no) (fun _ _ => .no) (fun _ _ _ _ => .no) (fun _ _ => .no) (fun _ _ => .no) (fun _ _ _ _ _ _ => .no) (fun _ => .no) (fun _ _ _ _ => .no) (fun _ => .no) (fun _ _ _ => .no) (fun _ _ _ => .no)
  (fun _ _ => ()) () (fun _ _ _ _ => ()) v : IntKind → NN) k
noncomputable def natK (k : IntKind) (v : Value) : NN := natKV v k
noncomputable def adrV (v : Value) : AA := (Value.rec (motive_1 := fun _ => AA) (motive_2 := fun _ => Unit) (motive_3 := fun _ => Unit)
  (fun _ => .no) (fun _ _ => .no) (fun _ _ => .no) (fun _ _ _ => .no) (fun _ => .no) (fun x0 => Option.rec (motive := fun _ => AA) .no (fun a => .ok a) x0) (fun _ _ _ => .no) (fun _ => .no) (fun _ => .no) (fun _ _ _ _ _ => .no) (.no) (fun _ _ _ => .no) (.no) (fun _ _ => .no) (fun _ _ => .no)
  (fun _ _ => ()) () (fun _ _ _ _ => ()) v : AA)
noncomputable def pickV (v : Value) (a b : Value) (h : Hp) : R := (Value.rec (motive_1 := fun _ => Value → Value → Hp → R) (motive_2 := fun _ => Unit) (motive_3 := fun _ => Unit)
  (fun x0 a b h => Bool.rec (motive := fun _ => R) (moveR b h) (moveR a h) x0) (fun _ _ _ _ _ => .no) (fun _ _ _ _ _ => .no) (fun _ _ _ _ _ _ => .no) (fun _ _ _ _ => .no) (fun _ _ _ _ => .no) (fun _ _ _ _ _ _ => .no) (fun _ _ _ _ => .no) (fun _ _ _ _ => .no) (fun _ _ _ _ _ _ _ _ => .no) (fun _ _ _ => .no) (fun _ _ _ _ _ _ => .no) (fun _ _ _ => .no) (fun _ _ _ _ _ => .no) (fun _ _ _ _ _ => .no)
  (fun _ _ => ()) () (fun _ _ _ _ => ()) v : Value → Value → Hp → R) a b h
noncomputable def condV (v : Value) (a b : X) : X := (Value.rec (motive_1 := fun _ => X → X → X) (motive_2 := fun _ => Unit) (motive_3 := fun _ => Unit)
  (fun x0 a b => Bool.rec (motive := fun _ => X) b a x0) (fun _ _ _ _ => .no) (fun _ _ _ _ => .no) (fun _ _ _ _ _ => .no) (fun _ _ _ => .no) (fun _ _ _ => .no) (fun _ _ _ _ _ => .no) (fun _ _ _ => .no) (fun _ _ _ => .no) (fun _ _ _ _ _ _ _ => .no) (fun _ _ => .no) (fun _ _ _ _ _ => .no) (fun _ _ => .no) (fun _ _ _ _ => .no) (fun _ _ _ _ => .no)
  (fun _ _ => ()) () (fun _ _ _ _ => ()) v : X → X → X) a b
-- LEAVES2 END

noncomputable def cellsOf : Value → List Value
  | .agg cs => cs.toList
  | v => [v]

/-- a block's cells -/
inductive Row where
  | no
  | ok (c : VT) (size elem : Nat)
noncomputable def rowB : Blk → Row
  | .cells c s e => .ok c s e
  | _ => .no
noncomputable def rowOf (h : Hp) (b : Nat) : Row := rowB (h.bl.get b)

/-- so many cells from a place on, ahead of others -/
noncomputable def getN (c : VT) (off : Nat) (k : List Value → R) : Nat → List Value → R
  | 0, acc => k acc
  | Nat.succ j, acc => forceV (c.get (Nat.add off j)) fun v => getN c off k j (v :: acc)

noncomputable def setAll (t : VT) (i : Nat) : List Value → Option VT
  | [] => some t
  | x :: l => match t.set i x with
    | some t' => setAll t' (Nat.succ i) l
    | none => none

noncomputable def minN (a b : Nat) : Nat := bif Nat.ble a b then a else b
noncomputable def maxN (a b : Nat) : Nat := bif Nat.ble a b then b else a

noncomputable def lenL {α : Type} : List α → Nat
  | [] => 0
  | _ :: l => Nat.succ (lenL l)

/-- a new block -/
noncomputable def newBlk (h : Hp) (o : Blk) (k : Nat → Hp → R) : R := match h.bl.set h.next o with
  | some bl => forceN h.next fun n => k n { next := Nat.succ n, low := h.low, high := h.high, mark := h.mark, bl := bl }
  | none => .no
/-- an old block is written. Those below 256 came in: they are only read -/
noncomputable def putBlk (h : Hp) (b : Nat) (o : Blk) (k : Hp → R) : R := bif Nat.ble 256 b then (match h.bl.set b o with
  | some bl => forceN (minN h.low b) fun lo => forceN (maxN h.high b) fun hi => k { next := h.next, low := lo, high := hi, mark := h.mark, bl := bl }
  | none => .no) else .no
/-- a new row whose cells stand in a tree -/
noncomputable def newRowT (h : Hp) (e : Nat) (t : VT) (n : Nat) (k : Nat → Hp → R) : R := forceN n fun s => newBlk h (.cells t s e) k
noncomputable def newRow (h : Hp) (e : Nat) (cs : List Value) (k : Nat → Hp → R) : R := match setAll .mt 0 cs with
  | some t => newRowT h e t (lenL cs) k
  | none => .no
noncomputable def ptrNew (r : Nat) (h : Hp) : R := .ok (.pointer (some ⟨r, 0, none⟩)) h
noncomputable def slcNew (n c : Nat) (r : Nat) (h : Hp) : R := .ok (.slice (some ⟨r, 0, none⟩) n c) h

noncomputable def load1 (a : Addr) (h : Hp) : R := Row.rec (motive := fun _ => R) .no
  (fun c s _ => Bool.rec (motive := fun _ => R) .no (forceV (c.get a.off) fun v => .ok v h) (Nat.blt a.off s)) (rowOf h a.block)
noncomputable def loadN (n : Nat) (a : Addr) (h : Hp) : R := match rowOf h a.block with
  | .ok c s _ => bif Nat.ble (Nat.add a.off n) s then getN c a.off (fun l => .ok (.agg ⟨l⟩) h) n [] else .no
  | .no => .no

noncomputable def oneCell : Value → Bool
  | .agg _ => false
  | .tuple _ => false
  | .chan _ => false
  | _ => true
/-- '.chan none' stands for any value: it is only handed on -/
noncomputable def known : Value → Bool
  | .chan _ => false
  | _ => true
noncomputable def allOne : List Value → Bool
  | [] => true
  | v :: l => bif oneCell v then allOne l else false

noncomputable def storeL (a : Addr) (vs : List Value) (h : Hp) (k : Hp → R) : R := match rowOf h a.block with
  | .ok c s e => bif Nat.ble (Nat.add a.off (lenL vs)) s then (bif allOne vs then (match setAll c a.off vs with
    | some c' => putBlk h a.block (.cells c' s e) k
    | none => .no) else .no) else .no
  | .no => .no
noncomputable def okNone (h : Hp) : R := .ok noRes h

def bEq : List UInt8 → List UInt8 → Bool
  | [], [] => true
  | a :: x, b :: y => bif Nat.beq a.toNat b.toNat then bEq x y else false
  | _, _ => false
def bLt : List UInt8 → List UInt8 → Bool
  | _, [] => false
  | [], _ :: _ => true
  | a :: x, b :: y => bif Nat.blt a.toNat b.toNat then true else bif Nat.beq a.toNat b.toNat then bLt x y else false

noncomputable def most : Nat := 1099511627776
/-- kinds of plain cells -/
inductive CK where
  | i (k : IntKind)
  | b
  | s
noncomputable def inK (k : IntKind) : Int → Bool
  | .ofNat m => Nat.ble m (topOf k)
  | .negSucc m => match k with
    | .u8 => false
    | .u16 => false
    | .u32 => false
    | .u64 => false
    | k => Nat.ble m (topOf k)
/-- is a cell what its kind says? -/
noncomputable def fitC (c : CK) (v : Value) : Bool := match c with
  | .i k => match v with
    | .int q n => match sameK k q with
      | true => inK k n
      | false => false
    | _ => false
  | .b => match v with
    | .bool _ => true
    | _ => false
  | .s => match v with
    | .string s => Nat.ble (lenL s.data.toList) most
    | _ => false
noncomputable def fitL : List CK → List Value → Bool
  | [], [] => true
  | c :: l, v :: r => match fitC c v with
    | true => fitL l r
    | false => false
  | _, _ => false
/-- kinds of a value's cells: of a struct or an array, or of one cell -/
structure KS where
  agg : Bool
  ks : List CK
noncomputable def fitK (K : KS) (v : Value) : Bool := match v with
  | .agg cs => match K.agg with
    | true => fitL K.ks cs.toList
    | false => false
  | v => match K.agg with
    | true => false
    | false => fitL K.ks [v]
/-- are two cells of plain data the same? -/
noncomputable def cellEq : Value → Value → Option Bool
  | .bool a, .bool b => some (a == b)
  | .int j a, .int k b => match sameK j k with
    | true => some (iEq a b)
    | false => none
  | .string a, .string b => some (bEq a.data.toList b.data.toList)
  | _, _ => none
noncomputable def cellsEq : List Value → List Value → Option Bool
  | [], [] => some true
  | a :: x, b :: y => match cellEq a b with
    | some true => cellsEq x y
    | some false => some false
    | none => none
  | _, _ => none

noncomputable def eqV (k : TK) (x y : Value) : Option Bool := match k, x, y with
  | .bool, .bool a, .bool b => some (a == b)
  | .ptr _, .pointer none, .pointer b => some b.isNone
  | .ptr _, .pointer (some _), .pointer none => some false
  | .slice _, .slice none _ _, .slice b _ _ => some b.isNone
  | .slice _, .slice (some _) _ _, .slice none _ _ => some false
  | .map _ _, .map none, .map b => some b.isNone
  | .map _ _, .map (some _), .map none => some false
  | .func, .nilFunc, .nilFunc => some true
  | .func, .nilFunc, .func _ _ _ => some false
  | .func, .func _ _ _, .nilFunc => some false
  | _, _, _ => none

noncomputable def takeL {α : Type} : Nat → List α → List α
  | 0, _ => []
  | Nat.succ _, [] => []
  | Nat.succ n, x :: l => x :: takeL n l
noncomputable def dropL {α : Type} : Nat → List α → List α
  | 0, l => l
  | Nat.succ _, [] => []
  | Nat.succ n, _ :: l => dropL n l
noncomputable def lay (cs : List Value) (off : Nat) (vs : List Value) : List Value := takeL off cs ++ vs ++ dropL (Nat.add off (lenL vs)) cs
noncomputable def nth {α : Type} : List α → Nat → Option α
  | [], _ => none
  | x :: _, 0 => some x
  | _ :: l, Nat.succ i => nth l i
noncomputable def repL {α : Type} (xs : List α) : Nat → List α
  | 0 => []
  | Nat.succ n => xs ++ repL xs n

/-- parts: where each is laid, how many cells it has, its operand -/
noncomputable def fillL (cs : List Value) (e : Env) (k : List Value → R) : List (Nat × Nat × O) → R
  | [] => forceL cs k
  | (off, size, x) :: rest => forceV (x e) fun v =>
      bif known v then (bif Nat.beq (lenL (cellsOf v)) size then (bif Nat.ble (Nat.add off size) (lenL cs) then fillL (lay cs off (cellsOf v)) e k rest else .no) else .no) else .no

noncomputable def partL (agg : Bool) (size : Nat) (cs : List Value) (off : Nat) (h : Hp) : R := match agg with
  | true => forceL (takeL size (dropL off cs)) fun l => .ok (.agg ⟨l⟩) h
  | false => match nth cs off with
    | some v => forceV v fun v => .ok v h
    | none => .no

noncomputable def addOff (a : Addr) (n : Nat) : Addr := match n with
  | 0 => a
  | Nat.succ m => ⟨a.block, Nat.add a.off (Nat.succ m), none⟩
noncomputable def ptrTo (a : Addr) (n : Nat) (h : Hp) : R := forceN (Nat.add a.off n) fun o => .ok (.pointer (some ⟨a.block, o, none⟩)) h

/-- a bound of a slice -/
noncomputable def bound (e : Env) (x : Option O) (dflt y : Nat) (k : Nat → R) : R := match x with
  | none => k dflt
  | some o => match natV (o e) with
    | .ok n => bif Nat.ble n y then k n else .no
    | .no => .no
noncomputable def bounds (e : Env) (len cap : Nat) (lo hi mx : Option O) (k : Nat → Nat → Nat → R) : R :=
  match mx with
  | some m => bound e (some m) cap cap fun m => match hi with
    | some hh => bound e (some hh) len m fun hh => bound e lo 0 hh fun l => k l hh m
    | none => .no
  | none => bound e hi len cap fun hh => bound e lo 0 hh fun l => k l hh cap

noncomputable def sliceOf (a : Option Addr) (size l hh m : Nat) (h : Hp) : R :=
  forceN (Nat.sub hh l) fun n => forceN (Nat.sub m l) fun c => match Nat.beq m l with
    | true => .ok (.slice a n c) h
    | false => match a with
      | none => .ok (.slice none n c) h
      | some a => match Nat.mul l size with
        | 0 => .ok (.slice (some a) n c) h
        | Nat.succ m => forceN (Nat.add a.off (Nat.succ m)) fun o => .ok (.slice (some ⟨a.block, o, none⟩) n c) h

noncomputable def bytesOf : List Value → Option (List UInt8)
  | [] => some []
  | .int .u8 (.ofNat n) :: l => match bytesOf l with
    | some bs => forceN n fun n => some (UInt8.ofNat n :: bs)
    | none => none
  | _ => none
noncomputable def cellsOfBytes : List UInt8 → List Value
  | [] => []
  | b :: l => forceN b.toNat fun n => .int .u8 (.ofNat n) :: cellsOfBytes l

/-- the first cells of a slice, or a string's bytes -/
noncomputable def srcCells (h : Hp) (size : Nat) (v : Value) (n : Nat) (k : List Value → R) : R := match v with
  | .slice none _ _ => k []
  | .slice (some a) _ _ => match rowOf h a.block with
    | .ok c s _ => bif Nat.ble (Nat.add a.off (Nat.mul n size)) s then getN c a.off k (Nat.mul n size) [] else .no
    | .no => .no
  | .string s => bif Nat.beq size 1 then k (cellsOfBytes (takeL n s.data.toList)) else .no
  | _ => .no
noncomputable def lenV (v : Value) : NN := match v with
  | .slice _ n _ => .ok n
  | .string s => .ok (lenL s.data.toList)
  | _ => .no

/-- does a row's view end where the row ends? one without room may lie anywhere -/
noncomputable def atEnd (off sc esize sz : Nat) : Bool := match sc with
  | 0 => true
  | Nat.succ _ => Nat.beq (Nat.add off (Nat.mul sc esize)) sz
/-- an append that has no room. A row of kind 0 has no room behind it; one of kind n + 1, of elements of type n, may have -/
noncomputable def growT (esize en : Nat) (base : Option Addr) (sc need : Nat) (t : VT) (n : Nat) (h : Hp) : R := match base with
  | none => newRowT h (Nat.succ en) t n (slcNew need need)
  | some a => match rowOf h a.block with
    | .ok _ sz e => match e with
      | 0 => newRowT h (Nat.succ en) t n (slcNew need need)
      | Nat.succ e => bif Nat.beq e en then (match atEnd a.off sc esize sz with
        | true => putBlk h a.block .dead fun h => newRowT h (Nat.succ en) t n (slcNew need need)
        | false => newRowT h (Nat.succ en) t n (slcNew need need)) else .no
    | .no => .no
noncomputable def growF (esize en : Nat) (base : Option Addr) (sc need : Nat) (cs : List Value) (h : Hp) : R := match setAll .mt 0 cs with
  | some t => growT esize en base sc need t (lenL cs) h
  | none => .no
/-- an append to a whole row sets the new cells only; else the row is copied -/
noncomputable def growA (esize en : Nat) (base : Option Addr) (sl sc need : Nat) (news : List Value) (h : Hp) (slow : R) : R := match base with
  | none => slow
  | some a => match a.off with
    | 0 => match rowOf h a.block with
      | .ok c sz _ => match Nat.beq sz (Nat.mul sl esize) with
        | true => match setAll c sz news with
          | some t => growT esize en (some a) sc need t (Nat.add sz (lenL news)) h
          | none => .no
        | false => slow
      | .no => slow
    | Nat.succ _ => slow
noncomputable def appendF (esize ebytes en : Nat) (s x : Value) (h : Hp) : R := match s with
  | .slice base sl sc => match lenV x with
    | .ok n => srcCells h esize x n fun news => forceN (Nat.add sl n) fun need => match Nat.ble need sc with
      | true => match base with
        | none => .ok (.slice none need sc) h
        | some a => storeL (addOff a (Nat.mul sl esize)) news h fun h => .ok (.slice (some a) need sc) h
      | false => bif Nat.ble (Nat.mul (Nat.succ need) (Nat.succ ebytes)) most then (bif allOne news then
        growA esize en base sl sc need news h (srcCells h esize (.slice base sl sc) sl fun olds => growF esize en base sc need (olds ++ news) h)
        else .no) else .no
    | .no => .no
  | _ => .no

/-- append(s, make([]T, n)...) -/
noncomputable def appendZ (esize ebytes en : Nat) (zs : List Value) (s : Value) (n : NN) (h : Hp) : R := match s with
  | .slice base sl sc => match n with
    | .ok n => forceN (Nat.add sl n) fun need => bif Nat.ble (Nat.mul (Nat.succ need) (Nat.succ ebytes)) most then (bif allOne zs then (match Nat.ble need sc with
      | true => match base with
        | none => .ok (.slice none need sc) h
        | some a => storeL (addOff a (Nat.mul sl esize)) (repL zs n) h fun h => .ok (.slice (some a) need sc) h
      | false => growA esize en base sl sc need (repL zs n) h (srcCells h esize (.slice base sl sc) sl fun olds => growF esize en base sc need (olds ++ repL zs n) h)) else .no) else .no
    | .no => .no
  | _ => .no

noncomputable def copyF (esize : Nat) (d x : Value) (h : Hp) : R := match d with
  | .slice base dl _ => match lenV x with
    | .ok xl => forceN (minN xl dl) fun n => srcCells h esize x n fun cs => match base with
      | none => .ok (.int .i64 (.ofNat n)) h
      | some a => storeL a cs h fun h => .ok (.int .i64 (.ofNat n)) h
    | .no => .no
  | _ => .no

inductive Ents where
  | no
  | ok (es : List Ent) (clock : Nat)
noncomputable def entB : Blk → Ents
  | .map es c => .ok es c
  | _ => .no
noncomputable def entsOf (h : Hp) (r : Nat) : Ents := entB (h.bl.get r)
noncomputable def keyEq (ks : KS) (a b : Value) : Option Bool := match fitK ks b with
  | true => cellsEq (cellsOf a) (cellsOf b)
  | false => none
/-- where a key stands: some none: nowhere -/
noncomputable def findE (ks : KS) (key : Value) : List Ent → Option (Option Ent)
  | [] => some none
  | e :: l => match keyEq ks key e.key with
    | some true => some (some e)
    | some false => findE ks key l
    | none => none
noncomputable def setE (ks : KS) (key v : Value) : List Ent → Option (Option (List Ent))
  | [] => some none
  | e :: l => match keyEq ks key e.key with
    | some true => some (some (⟨key, v, e.born⟩ :: l))
    | some false => match setE ks key v l with
      | some (some l') => some (some (e :: l'))
      | some none => some none
      | none => none
    | none => none
noncomputable def addE (x : Ent) : List Ent → List Ent
  | [] => [x]
  | e :: l => e :: addE x l
noncomputable def delE (ks : KS) (key : Value) : List Ent → Option (List Ent)
  | [] => some []
  | e :: l => match keyEq ks key e.key with
    | some true => some l
    | some false => match delE ks key l with
      | some l' => some (e :: l')
      | none => none
    | none => none

noncomputable def lookOut (ok : Bool) (v : Value) (b : Bool) (h : Hp) : R := match ok with
  | true => forceV v fun v => .ok (.tuple ⟨[v, .bool b]⟩) h
  | false => forceV v fun v => .ok v h
noncomputable def lookupF (ks : KS) (z : Value) (m key : Value) (ok : Bool) (h : Hp) : R := match fitK ks key with
  | true => match m with
    | .map none => lookOut ok z false h
    | .map (some r) => match entsOf h r with
      | .ok es _ => match findE ks key es with
        | some (some e) => lookOut ok e.val true h
        | some none => lookOut ok z false h
        | none => .no
      | .no => .no
    | _ => .no
  | _ => .no
noncomputable def updateF (ks : KS) (m key v : Value) (h : Hp) : R := match fitK ks key with
  | true => match m with
    | .map (some r) => match entsOf h r with
      | .ok es c => match setE ks key v es with
        | some (some es') => putBlk h r (.map es' c) okNone
        | some none => putBlk h r (.map (addE ⟨key, v, c⟩ es) (Nat.succ c)) okNone
        | none => .no
      | .no => .no
    | _ => .no
  | _ => .no
noncomputable def deleteF (ks : KS) (m key : Value) (h : Hp) : R := match fitK ks key with
  | true => match m with
    | .map (some r) => match entsOf h r with
      | .ok es c => match delE ks key es with
        | some es' => putBlk h r (.map es' c) okNone
        | none => .no
      | .no => .no
    | _ => .no
  | _ => .no

/-- a call of another function: its number, its arguments -/
abbrev CallF := Nat → List Value → Hp → R
/-- an operation -/
abbrev OpF := CallF → Env → Hp → R

noncomputable def oMove (x : O) : OpF := fun _ e h => moveR (x e) h
noncomputable def oPick (c a b : O) : OpF := fun _ e h => pickV (c e) (a e) (b e) h
noncomputable def oAlloc (size : Nat) (zero : VT) : OpF := fun _ _ h => newBlk h (.cells zero size 0) ptrNew
noncomputable def oBox (x : O) : OpF := fun _ e h => forceV (x e) fun v => bif known v then newRow h 0 (cellsOf v) ptrNew else .no
noncomputable def oBuild (zero : List Value) (parts : List (Nat × Nat × O)) : OpF := fun _ e h => fillL zero e (fun cs => .ok (.agg ⟨cs⟩) h) parts
noncomputable def oBuildSlice (len : Nat) (zero : List Value) (parts : List (Nat × Nat × O)) : OpF := fun _ e h => fillL zero e (fun cs => newRow h 0 cs (slcNew len len)) parts
noncomputable def oLoad1 (x : O) : OpF := fun _ e h => AA.rec (motive := fun _ => R) .no (fun a => load1 a h) (adrV (x e))
noncomputable def oLoadN (n : Nat) (x : O) : OpF := fun _ e h => match adrV (x e) with
  | .ok a => loadN n a h
  | .no => .no
noncomputable def oStore (n : Nat) (x y : O) : OpF := fun _ e h => match adrV (x e) with
  | .ok a => forceV (y e) fun u => bif Nat.beq (lenL (cellsOf u)) n then storeL a (cellsOf u) h okNone else .no
  | .no => .no
noncomputable def nilF (v : Value) (h : Hp) : R := match v with
  | .pointer (some a) => .ok (.pointer (some a)) h
  | .func (.func f) a b => .ok (.func (.func f) a b) h
  | .slice a n c => .ok (.slice a n c) h
  | .map m => .ok (.map m) h
  | .iface t v => forceV v fun v => .ok (.iface t v) h
  | _ => .no
noncomputable def oNil (x : O) : OpF := fun _ e h => nilF (x e) h
noncomputable def cmpF (f : Int → Int → Bool) (a b : NI) (h : Hp) : R :=
  NI.rec (motive := fun _ => R) .no (fun a => NI.rec (motive := fun _ => R) .no (fun b => okB (f a b) h) b) a
noncomputable def oCmp (f : Int → Int → Bool) (k : IntKind) (x y : O) : OpF := fun _ e h => cmpF f (intK k (x e)) (intK k (y e)) h
noncomputable def ariF (f : Int → Int → Int) (k : IntKind) (a b : NI) (h : Hp) : R :=
  NI.rec (motive := fun _ => R) .no (fun a => NI.rec (motive := fun _ => R) .no (fun b => okI k (wrapF k (f a b)) h) b) a
/-- an addition: of numbers that are not below 0 at once -/
noncomputable def addF (k : IntKind) (top : Nat) (a b : NI) (h : Hp) : R :=
  NI.rec (motive := fun _ => R) .no (fun a => NI.rec (motive := fun _ => R) .no (fun b =>
    Int.rec (motive := fun _ => R) (fun x => Int.rec (motive := fun _ => R)
      (fun y => Bool.rec (motive := fun _ => R) (okI k (k.wrap (a + b)) h) (forceN (Nat.add x y) fun n => .ok (.int k (.ofNat n)) h) (Nat.ble (Nat.add x y) top))
      (fun _ => okI k (wrapF k (a + b)) h) b)
      (fun _ => okI k (wrapF k (a + b)) h) a) b) a
noncomputable def oAdd (k : IntKind) (top : Nat) (x y : O) : OpF := fun _ e h => addF k top (intK k (x e)) (intK k (y e)) h
noncomputable def oAri (f : Int → Int → Int) (k : IntKind) (x y : O) : OpF := fun _ e h => ariF f k (intK k (x e)) (intK k (y e)) h
noncomputable def divF (k : IntKind) (a b : NI) (h : Hp) : R := match a with
  | .ok a => match b with
    | .ok b => bif iEq b 0 then .no else okI k (wrapF k (a.tdiv b)) h
    | .no => .no
  | .no => .no
noncomputable def oDiv (k : IntKind) (x y : O) : OpF := fun _ e h => divF k (intK k (x e)) (intK k (y e)) h
noncomputable def remF (k : IntKind) (a b : NI) (h : Hp) : R := match a with
  | .ok a => match b with
    | .ok b => bif iEq b 0 then .no else okI k (a.tmod b) h
    | .no => .no
  | .no => .no
noncomputable def oRem (k : IntKind) (x y : O) : OpF := fun _ e h => remF k (intK k (x e)) (intK k (y e)) h
noncomputable def bitF (f : Nat → Nat → Nat) (k : IntKind) (a b : NN) (h : Hp) : R := match a with
  | .ok a => match b with
    | .ok b => bif Nat.ble a (topOf k) then (bif Nat.ble b (topOf k) then okI k (.ofNat (f a b)) h else .no) else .no
    | .no => .no
  | .no => .no
noncomputable def oBit (f : Nat → Nat → Nat) (k : IntKind) (x y : O) : OpF := fun _ e h => bitF f k (natK k (x e)) (natK k (y e)) h
noncomputable def shlF (k : IntKind) (a b : NN) (h : Hp) : R := match a with
  | .ok a => match b with
    | .ok b => okI k (wrapF k (.ofNat (Nat.mul a (Nat.pow 2 (minN b k.bits))))) h
    | .no => .no
  | .no => .no
noncomputable def oShl (k : IntKind) (x y : O) : OpF := fun _ e h => shlF k (natK k (x e)) (natV (y e)) h
noncomputable def shrF (k : IntKind) (a b : NN) (h : Hp) : R := match a with
  | .ok a => match b with
    | .ok b => okI k (.ofNat (Nat.div a (Nat.pow 2 (minN b k.bits)))) h
    | .no => .no
  | .no => .no
noncomputable def oShr (k : IntKind) (x y : O) : OpF := fun _ e h => shrF k (natK k (x e)) (natV (y e)) h
noncomputable def strF (f : List UInt8 → List UInt8 → Bool) (a b : Value) (h : Hp) : R := match a with
  | .string a => match b with
    | .string b => okB (f a.data.toList b.data.toList) h
    | _ => .no
  | _ => .no
noncomputable def oStr (f : List UInt8 → List UInt8 → Bool) (x y : O) : OpF := fun _ e h => strF f (x e) (y e) h
noncomputable def catF (a b : Value) (h : Hp) : R := match a with
  | .string a => match b with
    | .string b => bif Nat.ble (Nat.add (lenL a.data.toList) (lenL b.data.toList)) most then .ok (.string ⟨⟨a.data.toList ++ b.data.toList⟩⟩) h else .no
    | _ => .no
  | _ => .no
noncomputable def oCat (x y : O) : OpF := fun _ e h => catF (x e) (y e) h
noncomputable def oEq (k : TK) (neg : Bool) (x y : O) : OpF := fun _ e h => match eqV k (x e) (y e) with
  | some r => okB (neg != r) h
  | none => .no
/-- an interface value beside nil -/
noncomputable def nilI (neg : Bool) (v : Value) (h : Hp) : R := match v with
  | .nilIface => okB (neg != true) h
  | .iface _ _ => okB (neg != false) h
  | _ => .no
noncomputable def oNilI (neg : Bool) (x : O) : OpF := fun _ e h => nilI neg (x e) h
/-- structs and arrays of plain cells -/
noncomputable def eqC (ks : KS) (x y : Value) : Option Bool := match fitK ks x with
  | true => keyEq ks x y
  | false => none
noncomputable def oEqC (ks : KS) (neg : Bool) (x y : O) : OpF := fun _ e h => match eqC ks (x e) (y e) with
  | some r => okB (neg != r) h
  | none => .no
noncomputable def oNot (x : O) : OpF := fun _ e h => match x e with
  | .bool b => okB (!b) h
  | _ => .no
/-- all bits of a byte turned -/
noncomputable def oCpl (x : O) : OpF := fun _ e h => match natK .u8 (x e) with
  | .ok n => bif Nat.ble n 255 then okI .u8 (.ofNat (Nat.sub 255 n)) h else .no
  | .no => .no
noncomputable def oNeg (k : IntKind) (x : O) : OpF := fun _ e h => match intK k (x e) with
  | .ok n => okI k (wrapF k (0 - n)) h
  | .no => .no
noncomputable def oConv (k : IntKind) (x : O) : OpF := fun _ e h => match intV (x e) with
  | .ok n => okI k (wrapF k n) h
  | .no => .no
noncomputable def oSame (x : O) : OpF := fun _ e h => match x e with
  | .string s => .ok (.string s) h
  | _ => .no
/-- bytes as bytes of one type: their block is marked, which is as good as a write -/
noncomputable def oBytes (x : O) : OpF := fun _ e h => match x e with
  | .slice (some a) n c => match rowOf h a.block with
    | .ok cs s t => match t with
      | 0 => .no
      | Nat.succ t => putBlk h a.block (.cells cs s (Nat.succ t)) fun h => .ok (.slice (some a) n c) h
    | .no => .no
  | _ => .no
noncomputable def oToStr (x : O) : OpF := fun _ e h => match x e with
  | .slice a n c => srcCells h 1 (.slice a n c) n fun cs => match bytesOf cs with
    | some bs => .ok (.string ⟨⟨bs⟩⟩) h
    | none => .no
  | _ => .no
noncomputable def oToBytes (el : Nat) (x : O) : OpF := fun _ e h => match x e with
  | .string s => forceN (lenL s.data.toList) fun n => bif Nat.ble n most then newRow h (Nat.succ el) (cellsOfBytes s.data.toList) (slcNew n n) else .no
  | _ => .no
noncomputable def oIface (t : Nat) (x : O) : OpF := fun _ e h => forceV (x e) fun v => .ok (.iface t v) h
noncomputable def oFunc (fn : Fn) (first cap : List O) : OpF := fun _ e h => forceL (vals e first) fun f => forceL (vals e cap) fun c => .ok (.func fn ⟨f⟩ ⟨c⟩) h
noncomputable def oMap : OpF := fun _ _ h => newBlk h (.map [] 0) fun r h => .ok (.map (some r)) h
/-- a tree of one value at so many places and more -/
noncomputable def repT (x : Value) : Nat → VT
  | 0 => .mt
  | Nat.succ d => .nd x (repT x d) (repT x d)
noncomputable def makeF (ebytes : Nat) (zs : List Value) (l c : NN) (h : Hp) : R := match l with
  | .ok l => match c with
    | .ok c => bif Nat.ble l c then (bif Nat.ble (Nat.mul (Nat.succ c) (Nat.succ ebytes)) most then newRow h 0 (repL zs c) (slcNew l c) else .no) else .no
    | .no => .no
  | .no => .no
noncomputable def oMake (ebytes : Nat) (zs : List Value) (l c : O) : OpF := fun _ e h => makeF ebytes zs (natV (l e)) (natV (c e)) h
noncomputable def oCutStr (x : O) (lo hi : Option O) : OpF := fun _ e h => match x e with
  | .string s => bounds e (lenL s.data.toList) (lenL s.data.toList) lo hi none fun l hh _ => .ok (.string ⟨⟨takeL (Nat.sub hh l) (dropL l s.data.toList)⟩⟩) h
  | _ => .no
/-- a row with room behind it is cut as what it is a row of -/
noncomputable def fitsE (el : Nat) (a : Option Addr) (h : Hp) : Bool := match a with
  | none => true
  | some a => match rowOf h a.block with
    | .ok _ _ e => match e with
      | 0 => true
      | Nat.succ e => Nat.beq e el
    | .no => false
noncomputable def cutF (el esize : Nat) (a : Option Addr) (mx : Bool) (l hh m : Nat) (h : Hp) : R := match mx with
  | true => sliceOf a esize l hh m h
  | false => match l with
    | 0 => sliceOf a esize 0 hh m h
    | Nat.succ l => bif fitsE el a h then sliceOf a esize (Nat.succ l) hh m h else .no
noncomputable def oCut (el esize : Nat) (x : O) (lo hi mx : Option O) : OpF := fun _ e h => match x e with
  | .slice a n c => bounds e n c lo hi mx fun l hh m => cutF el esize a mx.isSome l hh m h
  | _ => .no
noncomputable def oCutArr (n esize : Nat) (x : O) (lo hi mx : Option O) : OpF := fun _ e h => match adrV (x e) with
  | .ok a => bounds e n n lo hi mx fun l hh m => sliceOf (some a) esize l hh m h
  | .no => .no
noncomputable def oFieldAddr (off : Nat) (x : O) : OpF := fun _ e h => AA.rec (motive := fun _ => R) .no (fun a => ptrTo a off h) (adrV (x e))
noncomputable def oField (agg : Bool) (size off : Nat) (x : O) : OpF := fun _ e h => match x e with
  | .agg cs => partL agg size cs.toList off h
  | _ => .no
noncomputable def idxF (n esize : Nat) (a : AA) (i : NN) (h : Hp) : R :=
  NN.rec (motive := fun _ => R) .no (fun i => Bool.rec (motive := fun _ => R) .no (AA.rec (motive := fun _ => R) .no (fun a => ptrTo a (Nat.mul i esize) h) a) (Nat.blt i n)) i
noncomputable def oIdxArr (n esize : Nat) (x ix : O) : OpF := fun _ e h => idxF n esize (adrV (x e)) (natV (ix e)) h
noncomputable def oIdx (esize : Nat) (x ix : O) : OpF := fun _ e h => match x e with
  | .slice (some a) n _ => idxF n esize (.ok a) (natV (ix e)) h
  | _ => .no
noncomputable def atF (agg : Bool) (n esize : Nat) (v : Value) (i : NN) (h : Hp) : R := match i with
  | .ok i => bif Nat.blt i n then (match v with
    | .agg cs => partL agg esize cs.toList (Nat.mul i esize) h
    | _ => .no) else .no
  | .no => .no
noncomputable def oAt (agg : Bool) (n esize : Nat) (x ix : O) : OpF := fun _ e h => atF agg n esize (x e) (natV (ix e)) h
noncomputable def atStrF (v : Value) (i : NN) (h : Hp) : R := match i with
  | .ok i => match v with
    | .string s => match nth s.data.toList i with
      | some b => okI .u8 (.ofNat b.toNat) h
      | none => .no
    | _ => .no
  | .no => .no
noncomputable def oAtStr (x ix : O) : OpF := fun _ e h => atStrF (x e) (natV (ix e)) h
noncomputable def oLookup (ks : KS) (z : Value) (ok : Bool) (x ix : O) : OpF := fun _ e h => lookupF ks z (x e) (ix e) ok h
noncomputable def oUpdate (ks : KS) (m key x : O) : OpF := fun _ e h => forceV (key e) fun key => forceV (x e) fun v => updateF ks (m e) key v h
noncomputable def oExtract (i : Nat) (t : O) : OpF := fun _ e h => match t e with
  | .tuple vs => match nth vs.toList i with
    | some v => forceV v fun v => .ok v h
    | none => .no
  | _ => .no
noncomputable def oCall (f : Nat) (args : List O) : OpF := fun F e h => forceL (vals e args) fun args => F f args h
noncomputable def oApply (f : O) (args : List O) : OpF := fun F e h => match f e with
  | .func (.func g) first cap => forceL (vals e args) fun args => F g (first.toList ++ (args ++ cap.toList)) h
  | _ => .no
/-- a method of a value behind an interface: by its dynamic type -/
noncomputable def findN (t : Nat) : List (Nat × Nat) → Option Nat
  | [] => none
  | x :: l => bif Nat.beq x.1 t then some x.2 else findN t l
noncomputable def oInvoke (tbl : List (Nat × Nat)) (x : O) (args : List O) : OpF := fun F e h => match x e with
  | .iface t v => match findN t tbl with
    | some f => forceV v fun v => forceL (vals e args) fun args => F f (v :: args) h
    | none => .no
  | _ => .no
/-- a value behind an interface, held to be of a type that is none -/
noncomputable def oAssert (t : Nat) (ok : Bool) (z : Value) (x : O) : OpF := fun _ e h => match x e with
  | .nilIface => match ok with
    | true => lookOut true z false h
    | false => .no
  | .iface u v => match Nat.beq u t with
    | true => lookOut ok v true h
    | false => match ok with
      | true => lookOut true z false h
      | false => .no
  | _ => .no
noncomputable def oAppend (esize ebytes en : Nat) (s x : O) : OpF := fun _ e h => appendF esize ebytes en (s e) (x e) h
noncomputable def oAppendZ (esize ebytes en : Nat) (zs : List Value) (s x : O) : OpF := fun _ e h => appendZ esize ebytes en zs (s e) (natV (x e)) h
noncomputable def oLenS (x : O) : OpF := fun _ e h => match x e with
  | .slice _ n _ => .ok (.int .i64 (.ofNat n)) h
  | _ => .no
/-- the room of a slice that has none: of others the machine does not know it -/
noncomputable def oCapS (x : O) : OpF := fun _ e h => match x e with
  | .slice none 0 0 => .ok (.int .i64 (.ofNat 0)) h
  | _ => .no
noncomputable def oLenT (x : O) : OpF := fun _ e h => match x e with
  | .string s => forceN (lenL s.data.toList) fun n => .ok (.int .i64 (.ofNat n)) h
  | _ => .no
noncomputable def oLenM (x : O) : OpF := fun _ e h => match x e with
  | .map none => .ok (.int .i64 (.ofNat 0)) h
  | .map (some r) => match entsOf h r with
    | .ok es _ => forceN (lenL es) fun n => .ok (.int .i64 (.ofNat n)) h
    | .no => .no
  | _ => .no
noncomputable def oCopy (esize : Nat) (d x : O) : OpF := fun _ e h => copyF esize (d e) (x e) h
noncomputable def minmax (lt : Bool) (a b : Value) (h : Hp) : R := match a with
  | .int k a => match intV b with
    | .ok b => bif (bif lt then iLt b a else iLt a b) then .ok (.int k b) h else .ok (.int k a) h
    | .no => .no
  | _ => .no
noncomputable def oMin (x y : O) : OpF := fun _ e h => minmax true (x e) (y e) h
noncomputable def oMax (x y : O) : OpF := fun _ e h => minmax false (x e) (y e) h
noncomputable def oDelete (ks : KS) (m key : O) : OpF := fun _ e h => deleteF ks (m e) (key e) h
noncomputable def oClearMap (m : O) : OpF := fun _ e h => match m e with
  | .map none => okNone h
  | .map (some r) => match entsOf h r with
    | .ok _ c => putBlk h r (.map [] c) okNone
    | .no => .no
  | _ => .no
noncomputable def oClear (zero : List Value) (s : O) : OpF := fun _ e h => match s e with
  | .slice none _ _ => okNone h
  | .slice (some a) n _ => match n with
    | 0 => okNone h
    | Nat.succ k => storeL a (repL zero (Nat.succ k)) h okNone
  | _ => .no

inductive Iter where
  | no
  | ok (m : Option Nat) (since : Nat) (seen : List Nat) (last : Nat)
  | cur (m : Nat) (at_ : Nat) (last : Nat)
  | pick (m : Nat) (at_ : Nat) (last : Nat) (sn : Option (List Nat))
noncomputable def iterB : Blk → Iter
  | .iter m s l t => .ok m s l t
  | .cur m s t => .cur m s t
  | .pick m s t sn => .pick m s t sn
  | _ => .no
noncomputable def memL (n : Nat) : List Nat → Bool
  | [] => false
  | x :: l => bif Nat.beq x n then true else memL n l
/-- the entries that are still to come; none: one is younger than the walk -/
noncomputable def leftE (since : Nat) (seen : List Nat) : List Ent → Option (List Ent)
  | [] => some []
  | e :: l => match leftE since seen l with
    | some r => bif memL e.born seen then some r else bif Nat.blt e.born since then some (e :: r) else none
    | none => none
noncomputable def allYoung (last : Nat) : List Ent → Bool
  | [] => true
  | e :: l => bif Nat.ble last e.born then allYoung last l else false
noncomputable def pushL (n : Nat) : List Nat → List Nat
  | [] => [n]
  | x :: l => x :: pushL n l
noncomputable def oRange (x : O) : OpF := fun _ e h => match x e with
  | .map none => newBlk h (.iter none 0 [] 0) ptrNew
  | .map (some r) => match entsOf h r with
    | .ok _ c => newBlk h (.iter (some r) c [] c) ptrNew
    | .no => .no
  | _ => .no
noncomputable def overF (h : Hp) : R := .ok (.tuple ⟨[.bool false]⟩) h
noncomputable def findB (n : Nat) : List Ent → Option Ent
  | [] => none
  | x :: l => bif Nat.beq x.born n then some x else findB n l
/-- where a walk stands behind a step that was told to it: whatever came ahead; or behind so many -/
noncomputable def pickB (m s last : Nat) (sn : Option (List Nat)) : Blk := match sn with
  | none => .cur m s last
  | some l => .iter (some m) last (pushL s l) last
noncomputable def nextF (a : Addr) (h : Hp) : R := match iterB (h.bl.get a.block) with
  | .ok none _ _ _ => overF h
  | .ok (some m) since seen last => match entsOf h m with
    | .ok es c => bif (match seen with | [] => false | _ => match es with | [] => false | _ => allYoung last es) then .no else match leftE since seen es with
      | some [] => overF h
      | some [x] => putBlk h a.block (.iter (some m) since (pushL x.born seen) c) fun h => .ok (.tuple ⟨[.bool true, x.key, x.val]⟩) h
      | _ => .no
    | .no => .no
  | .no => .no
  | .cur _ _ _ => .no
  | .pick m s last sn => match entsOf h m with
    | .ok es _ => match findB s es with
      | some x => match h.bl.set a.block (pickB m s last sn) with
        | some bl => .ok (.tuple ⟨[.bool true, x.key, x.val]⟩) { next := h.next, low := h.low, high := h.high, mark := h.mark, bl := bl }
        | none => .no
      | none => .no
    | .no => .no
noncomputable def oNext (x : O) : OpF := fun _ e h => match adrV (x e) with
  | .ok a => bif Nat.beq a.off 0 then nextF a h else .no
  | .no => .no
noncomputable def lastL : List Nat → Option Nat
  | [] => none
  | [x] => some x
  | _ :: l => lastL l
noncomputable def entryAt (m s last : Nat) (h : Hp) : R := match entsOf h m with
  | .ok es c => bif Nat.beq c last then (match findB s es with
    | some x => .ok (.tuple ⟨[x.key, x.val]⟩) h
    | none => .no) else .no
  | .no => .no
noncomputable def entryF (a : Addr) (h : Hp) : R := match iterB (h.bl.get a.block) with
  | .ok (some m) _ seen last => match lastL seen with
    | some s => entryAt m s last h
    | none => .no
  | .cur m s last => entryAt m s last h
  | _ => .no
noncomputable def oEntry (x : O) : OpF := fun _ e h => match adrV (x e) with
  | .ok a => bif Nat.beq a.off 0 then entryF a h else .no
  | .no => .no
/-- a slice as the address of an array of n -/
noncomputable def oArr (n : Nat) (x : O) : OpF := fun _ e h => match x e with
  | .slice (some a) l _ => bif Nat.ble n l then .ok (.pointer (some a)) h else .no
  | _ => .no

/-- a piece of code -/
abbrev C := CallF → Env → Hp → X


noncomputable def cOp (t : (Env → X) → Value → Env → X) (f : OpF) (k : C) : C := fun F e h => (R.rec (motive := fun _ => ((Env → X) → Value → Env → X) → C → CallF → Env → X) (fun v h t k F e => t (fun e => k F e h) v e) (fun _ _ _ _ => .no) (f F e h) : ((Env → X) → Value → Env → X) → C → CallF → Env → X) t k F e
noncomputable def cDo (f : OpF) (k : C) : C := fun F e h => (R.rec (motive := fun _ => C → CallF → Env → X) (fun _ h k F e => k F e h) (fun _ _ _ => .no) (f F e h) : C → CallF → Env → X) k F e
/-- an operation behind a guard: g: the guard's slot -/
noncomputable def cG (g : Env → Value) (want : Bool) (t : (Env → X) → Value → Env → X) (f : OpF) (k : C) : C := fun F e h => match g e with
  | .bool b => bif want == b then cOp t f k F e h else t (fun e => k F e h) noRes e
  | .tuple _ => t (fun e => k F e h) noRes e
  | _ => .no
noncomputable def blkOf : Value → NN
  | .pointer (some a) => .ok a.block
  | .slice (some a) _ _ => .ok a.block
  | .map (some r) => .ok r
  | _ => .no
/-- a check ahead of a write: its block is none of those that are read -/
noncomputable def cApart (b : Nat) (e : Env) : List (Env → Value) → Bool
  | [] => true
  | g :: l => match blkOf (g e) with
    | .ok a => bif Nat.beq a b then false else cApart b e l
    | .no => cApart b e l
noncomputable def cChk (w : Env → Value) (rs : List (Env → Value)) (k : C) : C := fun F e h => match blkOf (w e) with
  | .ok b => bif cApart b e rs then k F e h else .no
  | .no => k F e h
/-- an operation among others whose order to it is open: it writes nothing that was there ahead of it; nothing that was there ahead of the region; or what it likes -/
inductive Qm where
  | strong | weak | free
noncomputable def qOk (m : Qm) (h : Hp) (lo : Nat) : Bool := match m with
  | .strong => Nat.ble h.next lo
  | .weak => Nat.ble h.mark lo
  | .free => true
noncomputable def backF (h : Hp) (v : Value) (h' : Hp) : R := forceN (minN h.low h'.low) fun lo => forceN (maxN h.high h'.high) fun hi => .ok v { next := h'.next, low := lo, high := hi, mark := h.mark, bl := h'.bl }
noncomputable def oQuiet (m : Qm) (f : OpF) : OpF := fun F e h => match f F e { next := h.next, low := h.next, high := 0, mark := h.mark, bl := h.bl } with
  | .ok v h' => bif qOk m h h'.low then backF h v h' else .no
  | .no => .no
/-- it writes, of what was there, at most the block of x -/
noncomputable def atOk (a : NN) (h : Hp) (lo hi : Nat) : Bool := match a with
  | .ok b => bif Nat.ble b lo then Nat.ble hi b else false
  | .no => Nat.ble h.next lo
noncomputable def oAtB (x : Env → Value) (f : OpF) : OpF := fun F e h => match f F e { next := h.next, low := h.next, high := 0, mark := h.mark, bl := h.bl } with
  | .ok v h' => bif atOk (blkOf (x e)) h h'.low h'.high then backF h v h' else .no
  | .no => .no
/-- a region whose order is open begins -/
noncomputable def cMark (k : C) : C := fun F e h => k F e { next := h.next, low := h.low, high := h.high, mark := h.next, bl := h.bl }
/-- what is read was there ahead of the region -/
noncomputable def cOld (x : O) (k : C) : C := fun F e h => match blkOf (x e) with
  | .ok b => bif Nat.blt b h.mark then k F e h else .no
  | .no => k F e h
noncomputable def cNorm : C := fun _ e h => .norm e h
noncomputable def cRet : C := fun _ e h => .ret e h
noncomputable def cExit (id : Nat) : C := fun _ e h => .exit id e h
noncomputable def cNo : C := fun _ _ _ => .no
noncomputable def cSeq (a b : C) : C := fun F e h => match a F e h with
  | .norm e h => b F e h
  | x => x
noncomputable def cCond (c : O) (a b : C) : C := fun F e h => condV (c e) (a F e h) (b F e h)
noncomputable def cBlock (id : Nat) (a : C) : C := fun F e h => match a F e h with
  | .exit i e h => bif Nat.beq i id then .norm e h else .exit i e h
  | x => x
noncomputable def iter (body : C) : Nat → C
  | 0, _, _, _ => .no
  | Nat.succ n, F, e, h => match body F e h with
    | .norm e h => iter body n F e h
    | x => x
noncomputable def rounds : Nat := 1000000
noncomputable def cLoop (a : C) : C := iter a rounds

/-! ### a walk through a map that searches: each round by itself, out of the same memory, writes nothing that was there, and goes on or answers; those that answer, answer alike -/
/-- slots that stand for anything -/
noncomputable def clearS (e : Env) : List Nat → Env
  | [] => e
  | s :: l => clearS (Env.set s (.chan none) e) l
noncomputable def layS (e : Env) : List (Nat × Value) → Env
  | [] => e
  | x :: l => layS (Env.set x.1 x.2 e) l
/-- the slots of an answer that hold plain data, with what they hold -/
noncomputable def takeS (e : Env) : List Nat → List (Nat × Value)
  | [] => []
  | s :: l => match slotG s e with
    | .bool b => (s, .bool b) :: takeS e l
    | .int k n => (s, .int k n) :: takeS e l
    | _ => takeS e l
noncomputable def sameS : List (Nat × Value) → List (Nat × Value) → Bool
  | [], [] => true
  | x :: l, y :: r => bif Nat.beq x.1 y.1 then (match x.2, y.2 with
    | .bool a, .bool b => bif a == b then sameS l r else false
    | .int j a, .int k b => match sameK j k with
      | true => bif iEq a b then sameS l r else false
      | false => false
    | _, _ => false) else false
  | _, _ => false
inductive WR where
  | no
  | go
  | stop (vs : List (Nat × Value))
/-- a walk: the slots of the iterator, of what next gives, of whether there is more; the block it leaves; the slots that its code writes; those that an answer may be in -/
structure Walk where
  it : Nat
  nx : Nat
  more : Nat
  out : Nat
  ws : List Nat
  rs : List Nat
noncomputable def walkStop (k : Walk) (e : Env) (acc : WR) (go : WR → WR) : WR := match acc with
  | .go => go (.stop (takeS e k.rs))
  | .stop us => bif sameS us (takeS e k.rs) then go (.stop us) else .no
  | .no => .no
noncomputable def walkR (k : Walk) (body : C) (F : CallF) (e : Env) (h : Hp) (b m last : Nat) : List Ent → WR → WR
  | [], acc => acc
  | x :: l, acc => match h.bl.set b (.pick m x.born last none) with
    | some bl => match body F (clearS e k.ws) { next := h.next, low := h.next, high := 0, mark := h.mark, bl := bl } with
      | .norm _ h1 => bif Nat.ble h.next h1.low then walkR k body F e h b m last l acc else .no
      | .ret e1 h1 => bif Nat.ble h.next h1.low then walkStop k e1 acc (walkR k body F e h b m last l) else .no
      | _ => .no
    | none => .no
/-- the stamps of entries rise, up to the clock -/
noncomputable def risingE (clk lo : Nat) : List Ent → Bool
  | [] => true
  | e :: l => bif Nat.ble lo e.born then (bif Nat.blt e.born clk then risingE clk (Nat.succ e.born) l else false) else false
noncomputable def walkEnd (k : Walk) (e : Env) (h : Hp) (b : Nat) (r : WR) : X := match h.bl.set b .dead with
  | some bl => match r with
    | .go => .exit k.out (Env.set k.more (.bool false) (clearS e k.ws)) { next := h.next, low := minN h.low b, high := maxN h.high b, mark := h.mark, bl := bl }
    | .stop vs => .ret (layS (clearS e k.ws) vs) { next := h.next, low := minN h.low b, high := maxN h.high b, mark := h.mark, bl := bl }
    | .no => .no
  | none => .no
noncomputable def walkAt (k : Walk) (body : C) (F : CallF) (e : Env) (h : Hp) (a : Addr) (m since last : Nat) (es : List Ent) (c : Nat) : X :=
  bif Nat.beq a.off 0 then (bif Nat.ble 256 a.block then (bif Nat.beq c since then (bif Nat.beq c last then (bif risingE c 0 es then
    walkEnd k e h a.block (walkR k body F e h a.block m last es .go) else .no) else .no) else .no) else .no) else .no
/-! ### the same? the same but for numbers? -/
noncomputable def eqA (a b : Addr) : Bool := bif Nat.beq a.block b.block then (bif Nat.beq a.off b.off then (match a.spot with
  | none => match b.spot with
    | none => true
    | some _ => false
  | some _ => false) else false) else false
noncomputable def eqOA (a b : Option Addr) : Bool := match a with
  | none => match b with
    | none => true
    | some _ => false
  | some a => match b with
    | none => false
    | some b => eqA a b
noncomputable def eqL (f : Value → Value → Bool) : List Value → List Value → Bool
  | [], l => match l with
    | [] => true
    | _ :: _ => false
  | x :: r, l => match l with
    | [] => false
    | y :: s => bif f x y then eqL f r s else false
noncomputable def eqv : Nat → Value → Value → Bool
  | 0, _, _ => false
  | n + 1, a, b => match a with
    | .bool x => match b with
      | .bool y => x == y
      | _ => false
    | .int j x => match b with
      | .int k y => bif sameK j k then iEq x y else false
      | _ => false
    | .string x => match b with
      | .string y => bEq x.data.toList y.data.toList
      | _ => false
    | .pointer x => match b with
      | .pointer y => eqOA x y
      | _ => false
    | .slice x l c => match b with
      | .slice y m d => bif Nat.beq l m then (bif Nat.beq c d then eqOA x y else false) else false
      | _ => false
    | .map x => match b with
      | .map y => match x with
        | none => match y with
          | none => true
          | some _ => false
        | some x => match y with
          | none => false
          | some y => Nat.beq x y
      | _ => false
    | .func f x u => match b with
      | .func g y v => match f with
        | .func f => match g with
          | .func g => bif Nat.beq f g then (bif eqL (eqv n) x.toList y.toList then eqL (eqv n) u.toList v.toList else false) else false
          | _ => false
        | _ => false
      | _ => false
    | .nilFunc => match b with
      | .nilFunc => true
      | _ => false
    | .iface t x => match b with
      | .iface u y => bif Nat.beq t u then eqv n x y else false
      | _ => false
    | .nilIface => match b with
      | .nilIface => true
      | _ => false
    | .agg x => match b with
      | .agg y => eqL (eqv n) x.toList y.toList
      | _ => false
    | .tuple x => match b with
      | .tuple y => eqL (eqv n) x.toList y.toList
      | _ => false
    | _ => false
noncomputable def eqT : VT → VT → Bool
  | .mt, t => match t with
    | .mt => true
    | .nd _ _ _ => false
  | .nd v l r, t => match t with
    | .mt => false
    | .nd u a b => bif eqv 8 v u then (bif eqT l a then eqT r b else false) else false
noncomputable def eqEs : List Ent → List Ent → Bool
  | [], l => match l with
    | [] => true
    | _ :: _ => false
  | x :: r, l => match l with
    | [] => false
    | y :: s => bif eqv 8 x.key y.key then (bif eqv 8 x.val y.val then (bif Nat.beq x.born y.born then eqEs r s else false) else false) else false
noncomputable def eqNs : List Nat → List Nat → Bool
  | [], l => match l with
    | [] => true
    | _ :: _ => false
  | x :: r, l => match l with
    | [] => false
    | y :: s => bif Nat.beq x y then eqNs r s else false
noncomputable def eqB (a b : Blk) : Bool := match a with
  | .cells c s e => match b with
    | .cells c' s' e' => bif Nat.beq s s' then (bif Nat.beq e e' then eqT c c' else false) else false
    | _ => false
  | .map es k => match b with
    | .map es' k' => bif Nat.beq k k' then eqEs es es' else false
    | _ => false
  | .iter m s l t => match b with
    | .iter m' s' l' t' => bif Nat.beq s s' then (bif Nat.beq t t' then (bif eqNs l l' then (match m with
      | none => match m' with
        | none => true
        | some _ => false
      | some m => match m' with
        | none => false
        | some m' => Nat.beq m m') else false) else false) else false
    | _ => false
  | .dead => match b with
    | .dead => true
    | _ => false
  | _ => false
noncomputable def isoA (q : Nat → Nat → Bool) (a b : Addr) : Bool := bif q a.block b.block then (bif Nat.beq a.off b.off then (match a.spot with
  | none => match b.spot with
    | none => true
    | some _ => false
  | some _ => false) else false) else false
noncomputable def isoOA (q : Nat → Nat → Bool) (a b : Option Addr) : Bool := match a with
  | none => match b with
    | none => true
    | some _ => false
  | some a => match b with
    | none => false
    | some b => isoA q a b
noncomputable def isoV (q : Nat → Nat → Bool) : Nat → Value → Value → Bool
  | 0, _, _ => false
  | n + 1, a, b => match a with
    | .bool x => match b with
      | .bool y => x == y
      | _ => false
    | .int j x => match b with
      | .int k y => bif sameK j k then iEq x y else false
      | _ => false
    | .string x => match b with
      | .string y => bEq x.data.toList y.data.toList
      | _ => false
    | .pointer x => match b with
      | .pointer y => isoOA q x y
      | _ => false
    | .slice x l c => match b with
      | .slice y m d => bif Nat.beq l m then (bif Nat.beq c d then isoOA q x y else false) else false
      | _ => false
    | .map x => match b with
      | .map y => match x with
        | none => match y with
          | none => true
          | some _ => false
        | some x => match y with
          | none => false
          | some y => q x y
      | _ => false
    | .func f x u => match b with
      | .func g y v => match f with
        | .func f => match g with
          | .func g => bif Nat.beq f g then (bif eqL (isoV q n) x.toList y.toList then eqL (isoV q n) u.toList v.toList else false) else false
          | _ => false
        | _ => false
      | _ => false
    | .nilFunc => match b with
      | .nilFunc => true
      | _ => false
    | .iface t x => match b with
      | .iface u y => bif Nat.beq t u then isoV q n x y else false
      | _ => false
    | .nilIface => match b with
      | .nilIface => true
      | _ => false
    | .agg x => match b with
      | .agg y => eqL (isoV q n) x.toList y.toList
      | _ => false
    | .tuple x => match b with
      | .tuple y => eqL (isoV q n) x.toList y.toList
      | _ => false
    | _ => false
noncomputable def isoT (q : Nat → Nat → Bool) : VT → VT → Bool
  | .mt, t => match t with
    | .mt => true
    | .nd _ _ _ => false
  | .nd v l r, t => match t with
    | .mt => false
    | .nd u a b => bif isoV q 8 v u then (bif isoT q l a then isoT q r b else false) else false
noncomputable def isoEs (q : Nat → Nat → Bool) : List Ent → List Ent → Bool
  | [], l => match l with
    | [] => true
    | _ :: _ => false
  | x :: r, l => match l with
    | [] => false
    | y :: s => bif isoV q 8 x.key y.key then (bif isoV q 8 x.val y.val then (bif Nat.beq x.born y.born then isoEs q r s else false) else false) else false
noncomputable def isoB (q : Nat → Nat → Bool) (a b : Blk) : Bool := match a with
  | .cells c s e => match b with
    | .cells c' s' e' => bif Nat.beq s s' then (bif Nat.beq e e' then isoT q c c' else false) else false
    | _ => false
  | .map es k => match b with
    | .map es' k' => bif Nat.beq k k' then isoEs q es es' else false
    | _ => false
  | .iter m s l t => match b with
    | .iter m' s' l' t' => bif Nat.beq s s' then (bif Nat.beq t t' then (bif eqNs l l' then (match m with
      | none => match m' with
        | none => true
        | some _ => false
      | some m => match m' with
        | none => false
        | some m' => q m m') else false) else false) else false
    | _ => false
  | .dead => match b with
    | .dead => true
    | _ => false
  | _ => false

/-! ### a walk whose rounds write: every order is run; all must come to the same, but for the numbers of what is made -/
noncomputable def nthN : Nat → List Nat → Option Nat
  | _, [] => none
  | n, x :: l => match n with
    | 0 => some x
    | Nat.succ n => nthN n l
/-- L: for each number of the result, from B on, the number that it has here -/
noncomputable def qOf (B : Nat) (L : List Nat) (i j : Nat) : Bool := match Nat.blt j B with
  | true => Nat.beq i j
  | false => match nthN (Nat.sub j B) L with
    | some k => Nat.beq i k
    | none => false
noncomputable def uptoB (f : Nat → Bool) : Nat → Nat → Bool
  | 0, _ => true
  | Nat.succ n, i => bif f i then uptoB f n (Nat.succ i) else false
noncomputable def notIn (n : Nat) : List Nat → Bool
  | [] => true
  | x :: l => bif Nat.beq x n then false else notIn n l
noncomputable def distinct : List Nat → Bool
  | [] => true
  | x :: l => bif notIn x l then distinct l else false
noncomputable def betw (lo hi : Nat) : List Nat → Bool
  | [] => true
  | x :: l => bif Nat.ble lo x then (bif Nat.blt x hi then betw lo hi l else false) else false
noncomputable def lenN : List Nat → Nat
  | [] => 0
  | _ :: l => Nat.succ (lenN l)
noncomputable def isoOld (q : Nat → Nat → Bool) (t t1 r : BT) (i : Nat) : Bool :=
  bif isoB q (t1.get i) (r.get i) then (bif eqB (t.get i) (r.get i) then true else (match isoB q (t.get i) (r.get i) with | true => false | false => true)) else false
noncomputable def isoNew (q : Nat → Nat → Bool) (t1 r : BT) : List Nat → Nat → Bool
  | [], _ => true
  | k :: l, j => bif isoB q (t1.get k) (r.get j) then isoNew q t1 r l (Nat.succ j) else false
/-- h: ahead of the walk; h1: behind it; r: what it is said to come to -/
noncomputable def isoH (lo : Nat) (h h1 r : Hp) (L : List Nat) : Bool :=
  bif Nat.ble lo h1.low then (bif Nat.beq (Nat.add h.next (lenN L)) r.next then (bif distinct L then (bif betw h.next h1.next L then (bif uptoB (isoOld (qOf h.next L) h.bl h1.bl r.bl) (Nat.sub h.next lo) lo then
    isoNew (qOf h.next L) h1.bl r.bl L h.next else false) else false) else false) else false) else false
noncomputable def restE (seen : List Nat) : List Ent → List Ent
  | [] => []
  | x :: l => bif memL x.born seen then restE seen l else x :: restE seen l
noncomputable def allEn (f : Ent → Bool) : List Ent → Bool
  | [] => true
  | x :: l => bif f x then allEn f l else false
noncomputable def stepE (k : Walk) (body : C) (F : CallF) (e : Env) (b m c : Nat) (seen : List Nat) (h : Hp) (x : Ent) : Option Hp :=
  match h.bl.set b (.pick m x.born c (some seen)) with
  | some bl => match body F (clearS e k.ws) { next := h.next, low := minN h.low b, high := maxN h.high b, mark := h.mark, bl := bl } with
    | .norm _ h1 => some h1
    | _ => none
  | none => none
/-- which rounds there were: the entry's stamp, the first of the numbers that it made, so many -/
abbrev Rds := List (Nat × Nat × Nat)
noncomputable def pushT (x : Nat × Nat × Nat) : Rds → Rds
  | [] => [x]
  | y :: l => y :: pushT x l
/-- what stands ahead of a round: the map, the clock, what was met, the entries -/
noncomputable def headE {α : Type} (b : Nat) (h : Hp) (no : α) (f : Nat → Nat → List Nat → List Ent → α) : α := match iterB (h.bl.get b) with
  | .ok (some m) since seen last => match entsOf h m with
    | .ok es c => bif Nat.beq c since then (bif Nat.beq c last then (bif risingE c 0 es then f m c seen es else no) else no) else no
    | .no => no
  | _ => no
noncomputable def explE (k : Walk) (body : C) (F : CallF) (e : Env) (b : Nat) (fin : Hp → Rds → Bool) : Nat → Hp → Rds → Bool
  | 0, _, _ => false
  | Nat.succ n, h, tr => headE b h false fun m c seen es => match restE seen es with
    | [] => fin h tr
    | y :: l => allEn (fun x => match stepE k body F e b m c seen h x with
      | some h1 => explE k body F e b fin n h1 (pushT (x.born, h.next, Nat.sub h1.next h.next) tr)
      | none => false) (y :: l)
noncomputable def firstE (k : Walk) (body : C) (F : CallF) (e : Env) (b : Nat) : Nat → Hp → Rds → Option (Hp × Rds)
  | 0, _, _ => none
  | Nat.succ n, h, tr => headE b h none fun m c seen es => match restE seen es with
    | [] => some (h, tr)
    | x :: _ => match stepE k body F e b m c seen h x with
      | some h1 => firstE k body F e b n h1 (pushT (x.born, h.next, Nat.sub h1.next h.next) tr)
      | none => none
noncomputable def fromN : Nat → Nat → List Nat → List Nat
  | 0, _, l => l
  | Nat.succ n, i, l => i :: fromN n (Nat.succ i) l
noncomputable def findT (n : Nat) : Rds → Option (Nat × Nat)
  | [] => none
  | x :: l => bif Nat.beq x.1 n then some x.2 else findT n l
/-- the first one's numbers, in the order of the second -/
noncomputable def srcL (tr : Rds) : Rds → List Nat
  | [] => []
  | x :: l => match findT x.1 tr with
    | some p => fromN p.2 p.1 (srcL tr l)
    | none => []
noncomputable def copyB (t : BT) : Nat → Nat → BT → Option BT
  | 0, _, r => some r
  | Nat.succ n, i, r => match r.set i (t.get i) with
    | some r => copyB t n (Nat.succ i) r
    | none => none
noncomputable def finE (lo : Nat) (h r : Hp) (b : Nat) (ct : Rds) (h1 : Hp) (tr : Rds) : Bool := match h1.bl.set b .dead with
  | some bl => isoH lo h { next := h1.next, low := minN h1.low b, high := maxN h1.high b, mark := h1.mark, bl := bl } r (srcL tr ct)
  | none => false
noncomputable def allEnd (k : Walk) (body : C) (F : CallF) (e : Env) (h : Hp) (b lo : Nat) (r : Hp) (ct : Rds) : X :=
  bif explE k body F e b (finE lo h r b ct) 5 { next := h.next, low := h.next, high := 0, mark := h.mark, bl := h.bl } [] then .exit k.out (Env.set k.more (.bool false) (clearS e k.ws)) r else .no
noncomputable def allWalk (k : Walk) (body : C) (F : CallF) (e : Env) (h : Hp) (b : Nat) : X :=
  match firstE k body F e b 5 { next := h.next, low := h.next, high := 0, mark := h.mark, bl := h.bl } [] with
  | some p => match p.1.bl.set b .dead with
    | some bc => match copyB bc (Nat.sub p.1.next p.1.low) p.1.low h.bl with
      | some br => allEnd k body F e h b p.1.low { next := p.1.next, low := minN h.low p.1.low, high := maxN h.high p.1.next, mark := h.mark, bl := br } p.2
      | none => .no
    | none => .no
  | none => .no

/-- two entries or more, none of which has been met: a search; else the loop as it stands -/
noncomputable def cWalk (k : Walk) (body : C) : C := fun F e h => match slotG k.it e with
  | .pointer (some a) => match iterB (h.bl.get a.block) with
    | .ok (some m) since seen last => match seen with
      | [] => match entsOf h m with
        | .ok es c => match es with
          | _ :: _ :: _ => match walkAt k body F e h a m since last es c with
            | .no => bif Nat.beq a.off 0 then (bif Nat.ble 256 a.block then allWalk k body F e h a.block else .no) else .no
            | x => x
          | _ => cLoop body F e h
        | .no => .no
      | _ => .no
    | _ => cLoop body F e h
  | _ => .no

/-- a function's results -/
inductive RV where
  | t (g : Env → Value)
  | c1 (g : Env → Value)
  | cN (g : Env → Value) (n : Nat)
  /-- no result: what the whole function gives -/
  | x (f : CallF → List Value → Hp → R)
noncomputable def wholeF : List RV → Option (CallF → List Value → Hp → R)
  | [] => none
  | r :: _ => match r with
    | .x f => some f
    | _ => none

noncomputable def result1 (e : Env) (h : Hp) : RV → R
  | .t g => .ok (g e) h
  | .c1 g => match adrV (g e) with
    | .ok a => load1 a h
    | .no => .no
  | .cN g n => match adrV (g e) with
    | .ok a => loadN n a h
    | .no => .no
  | .x _ => .no
noncomputable def results (e : Env) (h : Hp) (k : List Value → R) : List RV → R
  | [] => k []
  | r :: l => match result1 e h r with
    | .ok v _ => forceV v fun v => results e h (fun vs => k (v :: vs)) l
    | .no => .no
noncomputable def finish2 (h : Hp) (vs : List Value) : R := match vs with
  | [v] => .ok v h
  | vs => .ok (.tuple ⟨vs⟩) h
noncomputable def finish (rs : List RV) (e : Env) (h : Hp) : R := results e h (finish2 h) rs

/-- a function: how many parameters, its results, its code -/
structure Body where
  rs : List RV
  code : C

noncomputable def setArgs (e : Env) (i : Nat) : List Value → Env
  | [] => e
  | v :: l => setArgs (Env.set i v e) (Nat.succ i) l
noncomputable def leave (rs : List RV) (x : X) : R := match x with
  | .norm e h => finish rs e h
  | .ret e h => finish rs e h
  | _ => .no
noncomputable def enter (F : CallF) (b : Body) (args : List Value) (h : Hp) : R := match wholeF b.rs with
  | some f => f F args h
  | none => bif Nat.ble (lenL args) 320 then leave b.rs (b.code F (setArgs e0 0 args) h) else .no

/-- trees of functions -/
inductive FT where
  | mt
  | nd (b : Body) (l r : FT)
noncomputable def FT.get : FT → Nat → Option Body
  | .mt, _ => none
  | .nd b _ _, 0 => some b
  | .nd _ l r, Nat.succ k => match Nat.mod k 2 with
    | 0 => l.get (Nat.div k 2)
    | Nat.succ _ => r.get (Nat.div k 2)

noncomputable def call (bs : FT) : Nat → CallF
  | 0, _, _, _ => .no
  | Nat.succ n, f, args, h => match bs.get f with
    | some b => enter (call bs n) b args h
    | none => .no

noncomputable def fullT : Nat → BT
  | 0 => .mt
  | n + 1 => .nd .dead (fullT n) (fullT n)
/-- a run begins: the first 256 blocks are those that come in -/
noncomputable def start : Hp := { next := 256, low := 256, high := 0, mark := 256, bl := fullT 9 }
end Go.Proofs.Ytkafejncffinmaa

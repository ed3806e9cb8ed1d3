/-
  FROM THE MODEL's CODE TO THE CANONICAL MACHINE's: what is not served becomes a piece that never succeeds.
-/
import Derived.Test.YtkafejncffinmaaMach
namespace Go.Proofs.Ytkafejncffinmaa
open Go

noncomputable def oNo : OpF := fun _ _ _ => .no

/-- trees of types -/
inductive TTy where
  | mt
  | nd (t : Option TI) (l r : TTy)
noncomputable def TTy.get : TTy → Nat → Option TI
  | .mt, _ => none
  | .nd t _ _, 0 => t
  | .nd _ l r, Nat.succ k => match Nat.mod k 2 with
    | 0 => l.get (Nat.div k 2)
    | Nat.succ _ => r.get (Nat.div k 2)

noncomputable def findM (name : String) : List (String × Nat) → Option Nat
  | [] => none
  | x :: l => match x.1 == name with
    | true => some x.2
    | false => findM name l
/-- the types that have a method, and its functions -/
noncomputable def TTy.meths (name : String) : TTy → (Nat → Nat) → List (Nat × Nat)
  | .mt, _ => []
  | .nd t l r, ix => match (match t with | some ti => findM name ti.ms | none => none) with
    | some f => (ix 0, f) :: (l.meths name (fun k => ix (Nat.succ (Nat.mul 2 k))) ++ r.meths name (fun k => ix (Nat.succ (Nat.succ (Nat.mul 2 k)))))
    | none => l.meths name (fun k => ix (Nat.succ (Nat.mul 2 k))) ++ r.meths name (fun k => ix (Nat.succ (Nat.succ (Nat.mul 2 k))))

/-- a value that is no address of anything: the same on both sides -/
def plainV : Value → Bool
  | .bool _ | .int _ _ | .string _ | .pointer none | .slice none 0 0 | .map none | .nilFunc | .nilIface => true
  | _ => false
def plainC : Value → Bool
  | .agg cs => cs.toList.all plainV
  | v => plainV v

/-- what a slot that is never laid stands for: another slot, or a value -/
inductive Src where
  | s (n : Nat)
  | c (v : Value)
abbrev Sg := List (Nat × Src)
noncomputable def findS (t : Nat) : Sg → Option Src
  | [] => none
  | (d, s) :: l => match Nat.beq d t with
    | true => some s
    | false => findS t l
noncomputable def memN (t : Nat) : List Nat → Bool
  | [] => false
  | d :: l => match Nat.beq d t with
    | true => true
    | false => memN t l
/-- slot d is written: what stood for it stands for nothing any more -/
noncomputable def dropS (d : Nat) : Sg → Sg
  | [] => []
  | (t, .s n) :: l => match Nat.beq n d with
    | true => dropS d l
    | false => (t, .s n) :: dropS d l
  | (t, .c v) :: l => (t, .c v) :: dropS d l
/-- what stood for slot d stands for it no more -/
noncomputable def unkey (d : Nat) : Sg → Sg
  | [] => []
  | (t, s) :: l => match Nat.beq t d with
    | true => unkey d l
    | false => (t, s) :: unkey d l
noncomputable def srcO (A : List Nat) (σ : Sg) : Operand → Option Src
  | .tmp t => match findS t σ with
    | some s => some s
    | none => match memN t A with
      | true => none
      | false => match Nat.blt t 320 with
        | true => some (.s t)
        | false => none
  | .const v => match plainC v with
    | true => some (.c v)
    | false => none
  | .func f => some (.c (.func (.func f) #[] #[]))
  | .global _ => none
noncomputable def srcG : Src → O
  | .s n => slotG n
  | .c v => kV v

/-- the frame in which operands are read: the slots that are never laid, what stands for them -/
structure Fr where
  A : List Nat
  σ : Sg
noncomputable def cO (f : Fr) (x : Operand) : Option O := match srcO f.A f.σ x with
  | some s => some (srcG s)
  | none => none
noncomputable def cOs (f : Fr) : List Operand → Option (List O)
  | [] => some []
  | x :: l => match cO f x with
    | some y => match cOs f l with
      | some ys => some (y :: ys)
      | none => none
    | none => none
noncomputable def cOo (f : Fr) : Option Operand → Option (Option O)
  | none => some none
  | some x => match cO f x with
    | some y => some (some y)
    | none => none

noncomputable def w1 (f : Fr) (x : Operand) (k : O → OpF) : OpF := match cO f x with
  | some x => k x
  | none => oNo
noncomputable def w2 (f : Fr) (x y : Operand) (k : O → O → OpF) : OpF := w1 f x fun x => w1 f y fun y => k x y
noncomputable def wTy (ty : TTy) (t : Nat) (k : TI → OpF) : OpF := match ty.get t with
  | some ti => k ti
  | none => oNo

noncomputable def zeroV (ti : TI) : Option Value := match ti.k.agg with
  | true => some (.agg ⟨ti.zero⟩)
  | false => match ti.zero with
    | [v] => some v
    | _ => none
/-- is the zero value laid out? -/
noncomputable def wZ (ti : TI) (k : OpF) : OpF := match Nat.beq (lenL ti.zero) ti.size with
  | true => k
  | false => oNo
noncomputable def wZero (ti : TI) (k : Value → OpF) : OpF := match zeroV ti with
  | some z => k z
  | none => oNo

noncomputable def partsC (f : Fr) (place : Nat → Option (Nat × Nat)) : List (Nat × Operand) → Option (List (Nat × Nat × O))
  | [] => some []
  | (i, x) :: l => match place i with
    | some (off, size) => match cO f x with
      | some y => match partsC f place l with
        | some r => some ((off, size, y) :: r)
        | none => none
      | none => none
    | none => none

/-- the kinds of a type's cells, one behind the other; none: not all are plain -/
noncomputable def flatK (ty : TTy) : Nat → Nat → Option (List CK)
  | 0, _ => none
  | Nat.succ n, t => match ty.get t with
    | none => none
    | some ti => match ti.k with
      | .int k => some [.i k]
      | .bool => some [.b]
      | .string => some [.s]
      | .arr m e => match ty.get e with
        | some ei => match flatK ty n e with
          | some ks => match Nat.beq (lenL ks) ei.size with
            | true => match Nat.beq (Nat.mul m ei.size) ti.size with
              | true => some (repL ks m)
              | false => none
            | false => none
          | none => none
        | none => none
      | .struct fs => match flatF (flatK ty n) 0 fs with
        | some ks => match Nat.beq (lenL ks) ti.size with
          | true => some ks
          | false => none
        | none => none
      | _ => none
where
  flatF (rec : Nat → Option (List CK)) : Nat → List (Nat × Nat × Nat) → Option (List CK)
    | _, [] => some []
    | off, (o, s, t) :: l => match Nat.beq o off with
      | true => match rec t with
        | some ks => match Nat.beq (lenL ks) s with
          | true => match flatF rec (Nat.add off s) l with
            | some r => some (ks ++ r)
            | none => none
          | false => none
        | none => none
      | false => none
noncomputable def placeS (fs : List (Nat × Nat × Nat)) (i : Nat) : Option (Nat × Nat) := match nth fs i with
  | some (o, s, _) => some (o, s)
  | none => none
/-- is it the literal nil? -/
noncomputable def isNilO : Operand → Bool
  | .const v => match v with
    | .nilIface => true
    | _ => false
  | _ => false
noncomputable def binC (ty : TTy) (f : Fr) (op : BinOp) (t : Nat) (xo yo : Operand) : OpF := wTy ty t fun ti => w2 f xo yo fun x y => match ti.k with
  | .iface => match isNilO yo with
    | true => match op with
      | .eql => oNilI false x
      | .neq => oNilI true x
      | _ => oNo
    | false => oNo
  | .int k => match op with
    | .add => oAdd k (topOf k) x y
    | .sub => oAri Int.sub k x y
    | .mul => oAri Int.mul k x y
    | .quo => oDiv k x y
    | .rem => oRem k x y
    | .and => oBit Nat.land k x y
    | .or => oBit Nat.lor k x y
    | .xor => oBit Nat.xor k x y
    | .shl => oShl k x y
    | .shr => oShr k x y
    | .eql => oCmp iEq k x y
    | .neq => oCmp iNe k x y
    | .lss => oCmp iLt k x y
    | .leq => oCmp iLe k x y
    | .gtr => oCmp iGt k x y
    | .geq => oCmp iGe k x y
    | .andNot => oNo
  | .string => match op with
    | .add => oCat x y
    | .eql => oStr bEq x y
    | .neq => oStr (fun a b => !bEq a b) x y
    | .lss => oStr bLt x y
    | .gtr => oStr (fun a b => bLt b a) x y
    | .leq => oStr (fun a b => !bLt b a) x y
    | .geq => oStr (fun a b => !bLt a b) x y
    | _ => oNo
  | .struct _ => match flatK ty 8 t with
    | some ks => match op with
      | .eql => oEqC ⟨true, ks⟩ false x y
      | .neq => oEqC ⟨true, ks⟩ true x y
      | _ => oNo
    | none => oNo
  | .arr _ _ => match flatK ty 8 t with
    | some ks => match op with
      | .eql => oEqC ⟨true, ks⟩ false x y
      | .neq => oEqC ⟨true, ks⟩ true x y
      | _ => oNo
    | none => oNo
  | _ => match op with
    | .eql => oEq ti.k false x y
    | .neq => oEq ti.k true x y
    | _ => oNo
/-- the kinds of a map's keys -/
noncomputable def wKey (ty : TTy) (t : Nat) (k : KS → OpF) : OpF := wTy ty t fun ti => match ti.k with
  | .map kt _ => wTy ty kt fun ki => match flatK ty 8 kt with
    | some ks => k ⟨ki.k.agg, ks⟩
    | none => oNo
  | _ => oNo

noncomputable def builtC (ty : TTy) (b : Builtin) (ats : List Nat) (args : List O) : OpF := match b, args with
  | .append, [s, x] => match ats with
    | t :: t2 :: _ => wTy ty t fun ti => wTy ty t2 fun xi => match ti.k, xi.k with
      | .slice en, .slice _ => wTy ty en fun ei => match ei.size with
        | 0 => oNo
        | Nat.succ es => wZ ei (oAppend (Nat.succ es) ei.bytes en s x)
      | .slice en, .string => wTy ty en fun ei => match ei.size with
        | 0 => oNo
        | Nat.succ es => wZ ei (oAppend (Nat.succ es) ei.bytes en s x)
      | .slice en, .int _ => wTy ty en fun ei => match ei.size with
        | 0 => oNo
        | Nat.succ es => wZ ei (oAppendZ (Nat.succ es) ei.bytes en ei.zero s x)
      | _, _ => oNo
    | _ => oNo
  | .len, [x] => match ats with
    | t :: _ => wTy ty t fun ti => match ti.k with
      | .slice _ => oLenS x
      | .string => oLenT x
      | .map _ _ => oLenM x
      | .arr n _ => oMove (kV (.int .i64 (.ofNat n)))
      | _ => oNo
    | _ => oNo
  | .cap, [x] => match ats with
    | t :: _ => wTy ty t fun ti => match ti.k with
      | .slice _ => oCapS x
      | _ => oNo
    | _ => oNo
  | .copy, [d, x] => match ats with
    | t :: _ => wTy ty t fun ti => match ti.k with
      | .slice en => wTy ty en fun ei => oCopy ei.size d x
      | _ => oNo
    | _ => oNo
  | .min, [x, y] => oMin x y
  | .max, [x, y] => oMax x y
  | .delete, [m, key] => match ats with
    | t :: _ => wKey ty t fun ks => oDelete ks m key
    | _ => oNo
  | .clear, [m] => match ats with
    | t :: _ => wTy ty t fun ti => match ti.k with
      | .slice en => wTy ty en fun ei => wZ ei (oClear ei.zero m)
      | .map _ _ => oClearMap m
      | _ => oNo
    | _ => oNo
  | _, _ => oNo

noncomputable def opC (ty : TTy) (f : Fr) : Op → OpF
  | .move x => w1 f x oMove
  | .assign x => w1 f x oMove
  | .pick c a b => w1 f c fun c => w2 f a b fun a b => oPick c a b
  | .alloc t => wTy ty t fun ti => wZ ti (match setAll .mt 0 ti.zero with
    | some c => oAlloc ti.size c
    | none => oNo)
  | .box _ x => w1 f x fun x => oBox x
  | .build t parts => wTy ty t fun ti => wZ ti (match ti.k with
    | .struct fs => match partsC f (placeS fs) parts.toList with
      | some ps => oBuild ti.zero ps
      | none => oNo
    | .arr _ el => wTy ty el fun ei => match partsC f (fun i => some (Nat.mul i ei.size, ei.size)) parts.toList with
      | some ps => oBuild ti.zero ps
      | none => oNo
    | _ => oNo)
  | .buildSlice t len parts => wTy ty t fun ti => match ti.k with
    | .slice el => wTy ty el fun ei => wZ ei (match partsC f (fun i => some (Nat.mul i ei.size, ei.size)) parts.toList with
      | some ps => match Nat.ble (Nat.mul len ei.size) 16777216 with
        | true => oBuildSlice len (repL ei.zero len) ps
        | false => oNo
      | none => oNo)
    | _ => oNo
  | .load t x => wTy ty t fun ti => w1 f x fun x => match ti.k.agg with
    | true => oLoadN ti.size x
    | false => oLoad1 x
  | .store t x y => wTy ty t fun ti => w2 f x y fun x y => oStore ti.size x y
  | .nilCheck x => w1 f x oNil
  | .binOp op t x y _ => binC ty f op t x y
  | .unOp op t x => wTy ty t fun ti => w1 f x fun x => match op, ti.k with
    | .not, _ => oNot x
    | .neg, .int k => oNeg k x
    | .xor, .int .u8 => oCpl x
    | _, _ => oNo
  | .convert src dst x => wTy ty src fun si => wTy ty dst fun di => w1 f x fun x => match di.k, si.k with
    | .int k, .int _ => oConv k x
    | .string, .string => oSame x
    | .string, .slice el => wTy ty el fun ei => match ei.k with
      | .int .u8 => oToStr x
      | _ => oNo
    | .slice el, .string => wTy ty el fun ei => match ei.k with
      | .int .u8 => match Nat.beq ei.size 1 with
        | true => oToBytes el x
        | false => oNo
      | _ => oNo
    | .slice el, .slice _ => match Nat.beq src dst with
      | true => wTy ty el fun ei => match ei.k with
        | .int .u8 => oBytes x
        | _ => oNo
      | false => oNo
    | _, _ => oNo
  | .makeInterface t x => wTy ty t fun ti => w1 f x fun x => match ti.k with
    | .iface => oNo
    | _ => oIface t x
  | .makeFunc fn first cap => match cOs f first.toList, cOs f cap.toList with
    | some fs, some c => oFunc fn fs c
    | _, _ => oNo
  | .makeMap _ none => oMap
  | .makeSlice t l c => wTy ty t fun ti => match ti.k with
    | .slice el => wTy ty el fun ei => wZ ei (w2 f l c fun l c => oMake ei.bytes ei.zero l c)
    | _ => oNo
  | .slice t x lo hi mx => wTy ty t fun ti => w1 f x fun x => match cOo f lo, cOo f hi, cOo f mx with
    | some lo, some hi, some mx => match ti.k with
      | .string => match mx with
        | none => oCutStr x lo hi
        | some _ => oNo
      | .slice el => wTy ty el fun ei => oCut el ei.size x lo hi mx
      | .arr n el => wTy ty el fun ei => oCutArr n ei.size x lo hi mx
      | _ => oNo
    | _, _, _ => oNo
  | .fieldAddr t x i => wTy ty t fun ti => w1 f x fun x => match ti.k with
    | .struct fs => match nth fs i with
      | some (o, Nat.succ _, _) => oFieldAddr o x
      | some (_, 0, _) => oNo
      | none => oNo
    | _ => oNo
  | .field t x i => wTy ty t fun ti => w1 f x fun x => match ti.k with
    | .struct fs => match nth fs i with
      | some (o, _, ft) => wTy ty ft fun fi => oField fi.k.agg fi.size o x
      | none => oNo
    | _ => oNo
  | .indexAddr t x ix => wTy ty t fun ti => w2 f x ix fun x ix => match ti.k with
    | .arr n el => wTy ty el fun ei => oIdxArr n ei.size x ix
    | .slice el => wTy ty el fun ei => oIdx ei.size x ix
    | _ => oNo
  | .index t x ix => wTy ty t fun ti => w2 f x ix fun x ix => match ti.k with
    | .arr n el => wTy ty el fun ei => oAt ei.k.agg n ei.size x ix
    | .string => oAtStr x ix
    | _ => oNo
  | .lookup t x ix ok => wTy ty t fun ti => w2 f x ix fun x ix => match ti.k with
    | .map _ el => wTy ty el fun ei => wZ ei (wZero ei fun z => wKey ty t fun ks => oLookup ks z ok x ix)
    | _ => oNo
  | .mapUpdate t m key x => wKey ty t fun ks => w1 f m fun m => w2 f key x fun key x => oUpdate ks m key x
  | .insert t m key x => wKey ty t fun ks => w1 f m fun m => w2 f key x fun key x => oUpdate ks m key x
  | .extract t i => w1 f t fun t => oExtract i t
  | .range t x => wTy ty t fun ti => match ti.k with
    | .map _ _ => w1 f x fun x => oRange x
    | _ => oNo
  | .next x isStr => match isStr with
    | false => w1 f x fun x => oNext x
    | true => oNo
  | .entry x => w1 f x fun x => oEntry x
  | .sliceToArrayPointer t x => wTy ty t fun ti => match ti.k with
    | .arr (Nat.succ n) _ => w1 f x fun x => oArr (Nat.succ n) x
    | _ => oNo
  | .call c => match cOs f c.args.toList with
    | some args => match c.callee with
      | .builtin b => builtC ty b c.argTypes.toList args
      | .value g => match g with
        | .func g => oCall g args
        | g => w1 f g fun g => oApply g args
      | .invoke recv name => w1 f recv fun x => oInvoke (ty.meths name fun k => k) x args
    | none => oNo
  | .typeAssert x _ t ok => wTy ty t fun ti => w1 f x fun x => match ti.k with
    | .iface => oNo
    | _ => wZ ti (wZero ti fun z => oAssert t ok z x)
  | _ => oNo

/-- an operation whose order is open: plain; it makes memory; it reads a block; it writes one; a call -/
inductive Kd where
  | p
  | a
  | r (x : Operand)
  | w (x : Operand)
  | q
noncomputable def isIntT (ty : TTy) (t : Nat) : Bool := match ty.get t with
  | some ti => match ti.k with
    | .int _ => true
    | _ => false
  | none => false
noncomputable def isSliceT (ty : TTy) (t : Nat) : Bool := match ty.get t with
  | some ti => match ti.k with
    | .slice _ => true
    | _ => false
  | none => false
noncomputable def isMapT (ty : TTy) (t : Nat) : Bool := match ty.get t with
  | some ti => match ti.k with
    | .map _ _ => true
    | _ => false
  | none => true
noncomputable def kd (ty : TTy) : Op → Kd
  | .move _ => .p
  | .assign _ => .p
  | .pick .. => .p
  | .build .. => .p
  | .nilCheck _ => .p
  | .binOp .. => .p
  | .unOp .. => .p
  | .makeInterface .. => .p
  | .makeFunc .. => .p
  | .slice .. => .p
  | .fieldAddr .. => .p
  | .field .. => .p
  | .indexAddr .. => .p
  | .index .. => .p
  | .extract .. => .p
  | .sliceToArrayPointer .. => .p
  | .alloc _ => .a
  | .box .. => .a
  | .buildSlice .. => .a
  | .makeMap .. => .a
  | .makeSlice .. => .a
  | .load _ x => .r x
  | .lookup _ x _ _ => .r x
  | .convert src dst x => match Nat.beq src dst with
    | true => .q
    | false => match isIntT ty src with
      | true => .p
      | false => match isSliceT ty dst with
        | true => .a
        | false => .r x
  | .store _ x _ => .w x
  | .mapUpdate _ m _ _ => .w m
  | .insert _ m _ _ => .w m
  | .call c => match c.callee with
    | .builtin .len => match c.args.toList with
      | [x] => match isMapT ty (c.argTypes.getD 0 0) with
        | true => .r x
        | false => .p
      | _ => .q
    | .builtin .min => .p
    | .builtin .max => .p
    | .builtin _ => match c.args.toList with
      | x :: _ => .w x
      | _ => .q
    | _ => .q
  | _ => .q

/-- of each operation those that stand ahead of it, whatever the order, as bits -/
noncomputable def edgeM (acc : List Nat) (m : Nat) : List Edge → Nat
  | [] => m
  | e :: l => match Region.binds .any e with
    | true => edgeM acc (Nat.lor m (Nat.lor (Nat.shiftLeft 1 e.on) ((nth acc e.on).getD 0))) l
    | false => edgeM acc m l
noncomputable def snocK {β : Type} (x : Nat) (k : List Nat → β) : List Nat → β
  | [] => k [x]
  | y :: l => snocK x (fun l => k (y :: l)) l
noncomputable def befs {β : Type} (k : List Nat → β) : List Oper → List Nat → β
  | [], acc => k acc
  | o :: l, acc => forceN (edgeM acc 0 o.after.toList) fun m => snocK m (fun acc => befs k l acc) acc
noncomputable def isB (bs : List Nat) (i j : Nat) : Bool := match nth bs j with
  | some b => Nat.beq (Nat.mod (Nat.shiftRight b i) 2) 1
  | none => false
noncomputable def tmpsOf (ops : List Oper) (o : Oper) : List Nat :=
  o.op.operands.toList.filterMap (fun x => match x with | .tmp t => some t | _ => none) ++
  (match o.guard with
    | some (j, _) => match nth ops j with
      | some oj => oj.dst.toList
      | none => []
    | none => [])
/-- whoever writes a slot stands in a fixed order to whoever else names it -/
noncomputable def slotsOk (ops : List Oper) (bs : List Nat) : Bool :=
  ops.zipIdx.all fun (o, i) => match o.dst with
    | none => true
    | some d => ops.zipIdx.all fun (p, j) => Nat.beq i j || isB bs (minN i j) (i + j - minN i j) || !(memN d (p.dst.toList ++ tmpsOf ops p))
noncomputable def guardsOk (ops : List Oper) (bs : List Nat) : Bool :=
  ops.zipIdx.all fun (o, i) => match o.guard with
    | none => true
    | some (j, _) => isB bs j i
noncomputable def edgesOk (ops : List Oper) : Bool := ops.zipIdx.all fun (o, i) => o.after.toList.all fun e => !(Region.binds .any e) || Nat.blt e.on i

/-- of operation j among those ahead of it whose order to it is open: the operands to be held apart; none: the order may not be open -/
noncomputable def heldP (ops : List Oper) (j : Nat) (x : Operand) (i : Nat) (rest : Option (List Operand)) : Option (List Operand) := match x with
  | .tmp t => match ops.zipIdx.any (fun (o, k) => Nat.ble i k && Nat.blt k j && memN t o.dst.toList) with
    | true => none
    | false => match rest with
      | some xs => some (x :: xs)
      | none => none
  | _ => none
noncomputable def holdP (ops : List Oper) (j : Nat) (i : Nat) (rest : Option (List Operand)) (kx ky : Kd) : Option (List Operand) := match kx, ky with
  | .p, _ => rest
  | _, .p => rest
  | .w _, .w _ => none
  | .w _, .q => none
  | .q, .w _ => none
  | .w x, .r _ => heldP ops j x i rest
  | .r x, .w _ => heldP ops j x i rest
  | _, _ => rest
noncomputable def apart (ty : TTy) (ops : List Oper) (bs : List Nat) (j : Nat) (oj : Oper) : List (Oper × Nat) → Option (List Operand)
  | [] => some []
  | (oi, i) :: l => match Nat.blt i j && !isB bs i j with
    | false => apart ty ops bs j oj l
    | true => holdP ops j i (apart ty ops bs j oj l) (kd ty oi.op) (kd ty oj.op)
noncomputable def isQ : Kd → Bool
  | .q => true
  | _ => false
noncomputable def isR : Kd → Bool
  | .r _ => true
  | _ => false
noncomputable def isP : Kd → Bool
  | .p => true
  | _ => false
/-- is there another, such as asked, whose order to j is open? -/
noncomputable def loose (ty : TTy) (ops : List Oper) (bs : List Nat) (j : Nat) (ask : Nat → Kd → Bool) : Bool :=
  ops.zipIdx.any fun (o, i) => !(Nat.beq i j) && (!(isB bs (minN i j) (i + j - minN i j)) && ask i (kd ty o.op))
noncomputable def strongQ (ty : TTy) (ops : List Oper) (bs : List Nat) (j : Nat) : Bool := loose ty ops bs j fun _ k => isQ k
noncomputable def looseQ (ty : TTy) (ops : List Oper) (bs : List Nat) (j : Nat) : Bool := loose ty ops bs j fun _ k => !(isP k)

/-- what to do ahead of an operation: hold apart; is what it reads to be old? is a call to be quiet? -/
inductive Ahead where
  | plain
  | chk (old : Bool) (x : Operand) (xs : List Operand)
  | wr (x : Operand) (xs : List Operand)
  | quiet (m : Qm)
noncomputable def chkOf (old : Bool) (x : Operand) (xs : List Operand) : Ahead := match old, xs with
  | false, [] => .plain
  | _, _ => .chk old x xs
noncomputable def aheadOf (ty : TTy) (ops : List Oper) (bs : List Nat) (j : Nat) (o : Oper) : Option Ahead := match apart ty ops bs j o ops.zipIdx with
  | none => none
  | some xs => match kd ty o.op with
    | .q => match strongQ ty ops bs j, looseQ ty ops bs j with
      | true, _ => some (.quiet .strong)
      | false, true => some (.quiet .weak)
      | false, false => some (.quiet .free)
    | .a => some (.quiet .strong)
    | .r x => some (chkOf (loose ty ops bs j fun i k => isQ k && !(strongQ ty ops bs i)) x xs)
    | .w x => match loose ty ops bs j fun _ k => isR k with
      | true => some (.wr x xs)
      | false => some (.quiet .free)
    | _ => some .plain
noncomputable def aheads (ty : TTy) (ops : List Oper) (bs : List Nat) : Nat → List Oper → Option (List Ahead)
  | _, [] => some []
  | j, o :: l => match aheadOf ty ops bs j o with
    | some a => match aheads ty ops bs (Nat.succ j) l with
      | some r => some (a :: r)
      | none => none
    | none => none
noncomputable def drawC (ty : TTy) (ops : List Oper) : Option (List Ahead) := befs (fun bs => match edgesOk ops && (guardsOk ops bs && slotsOk ops bs) with
  | true => aheads ty ops bs 0 ops
  | false => none) ops []

noncomputable def aheadC (f : Fr) (a : Ahead) (o : OpF) (k : OpF → C) : C := match a with
  | .plain => k o
  | .quiet s => k (oQuiet s o)
  | .wr x xs => match cO f x, cOs f xs with
    | some x, some xs => cChk x xs (k (oAtB x o))
    | _, _ => cNo
  | .chk old x xs => match cO f x, cOs f xs with
    | some x, some xs => match old with
      | true => cOld x (cChk x xs (k o))
      | false => cChk x xs (k o)
    | _, _ => cNo

/-- a region's operations, with what follows -/
noncomputable def opsC (ty : TTy) (A : List Nat) (all : List Oper) (k : Sg → C) : List Ahead → List Oper → Sg → C
  | _, [], σ => k σ
  | as, o :: l, σ =>
    match o.guard, o.dst with
    | none, none => aheadC ⟨A, σ⟩ (as.headD .plain) (opC ty ⟨A, σ⟩ o.op) fun p => cDo p (opsC ty A all k as.tail l σ)
    | none, some d => match memN d A with
      | true => match o.op with
        | .move x => match srcO A σ x with
          | some s => opsC ty A all k as.tail l ((d, s) :: unkey d σ)
          | none => cNo
        | _ => cNo
      | false => match Nat.blt d 320 with
        | true => aheadC ⟨A, σ⟩ (as.headD .plain) (opC ty ⟨A, σ⟩ o.op) fun p => cOp (slotT d) p (opsC ty A all k as.tail l (dropS d σ))
        | false => cNo
    | some (j, w), some d => match memN d A with
      | true => cNo
      | false => match nth all j with
        | some oj => match oj.dst with
          | some g => match cO ⟨A, σ⟩ (.tmp g) with
            | some g => match Nat.blt d 320 with
              | true => aheadC ⟨A, σ⟩ (as.headD .plain) (opC ty ⟨A, σ⟩ o.op) fun p => cG g w (slotT d) p (opsC ty A all k as.tail l (dropS d σ))
              | false => cNo
            | none => cNo
          | none => cNo
        | none => cNo
    | some _, none => cNo

/-- may it end by running on? -/
noncomputable def falls : Code → Bool
  | .exit _ => false
  | .ret => false
  | .seq a b => falls a && falls b
  | .cond _ a b => falls a || falls b
  | .loop _ => false
  | _ => true

/-- the slots that a piece of code writes -/
noncomputable def dsts : List Oper → List Nat
  | [] => []
  | o :: l => match o.dst with
    | some d => d :: dsts l
    | none => dsts l
noncomputable def wrs : Code → List Nat
  | .region _ ops _ => dsts ops.toList
  | .seq a b => wrs a ++ wrs b
  | .cond _ a b => wrs a ++ wrs b
  | .block _ a => wrs a
  | .loop a => wrs a
  | .scope a => wrs a
  | _ => []
/-- those that are written right ahead of an answer -/
noncomputable def retS : Code → List Nat
  | .seq a b => match b with
    | .ret => match a with
      | .region _ ops _ => dsts ops.toList
      | _ => retS a
    | _ => retS a ++ retS b
  | .cond _ a b => retS a ++ retS b
  | .block _ a => retS a
  | .loop a => retS a
  | .scope a => retS a
  | _ => []
noncomputable def fewN : List Nat → Bool
  | [] => true
  | d :: l => match Nat.blt d 320 with
    | true => fewN l
    | false => false
/-- the block that a walk leaves when there is no more -/
noncomputable def outW (more : Nat) : Code → Option Nat
  | .seq a _ => match a with
    | .cond c x y => match c with
      | .tmp t => match x with
        | .skip => match y with
          | .exit id => match Nat.beq t more with
            | true => some id
            | false => none
          | _ => none
        | _ => none
      | _ => none
    | _ => none
  | _ => none
noncomputable def walkOps (A : List Nat) (rest : Code) (l : List Oper) : Option Walk := match l with
  | o1 :: l1 => match l1 with
    | o2 :: l2 => match l2 with
      | [] => match o1.op with
        | .next x str => match x with
          | .tmp it => match str with
            | false => match o1.dst, o1.guard with
              | some nx, none => match o2.op with
                | .extract y i => match y with
                  | .tmp n2 => match o2.dst, o2.guard with
                    | some more, none => match Nat.beq n2 nx && (Nat.beq i 0 && (!Nat.beq nx more && (!memN it A && (!memN nx A && (!memN more A && (Nat.blt it 320 && (Nat.blt nx 320 && (Nat.blt more 320 &&
                        (!memN it (nx :: more :: wrs rest) && fewN (wrs rest)))))))))) with
                      | true => match outW more rest with
                        | some out => some ⟨it, nx, more, out, nx :: more :: wrs rest, retS rest⟩
                        | none => none
                      | false => none
                    | _, _ => none
                  | _ => none
                | _ => none
              | _, _ => none
            | true => none
          | _ => none
        | _ => none
      | _ :: _ => none
    | [] => none
  | [] => none
/-- is it a walk through a map? -/
noncomputable def walkP (A : List Nat) : Code → Option Walk
  | .seq a rest => match a with
    | .region _ ops draw => match draw with
      | false => walkOps A rest ops.toList
      | true => none
    | _ => none
  | _ => none
noncomputable def thenC (k : Option (Sg → C)) (σ : Sg) : C := match k with
  | some k => k σ
  | none => cNorm

noncomputable def codeC (ty : TTy) (A : List Nat) : Code → Sg → Option (Sg → C) → C
  | .skip, σ, k => thenC k σ
  | .region _ ops draw, σ, k => match draw with
    | false => opsC ty A ops.toList (thenC k) [] ops.toList σ
    | true => match drawC ty ops.toList with
      | some as => cMark (opsC ty A ops.toList (thenC k) as ops.toList σ)
      | none => cNo
  | .seq a b, σ, k => codeC ty A a σ (some fun σ => codeC ty A b σ k)
  | .cond c a b, σ, k => match cO ⟨A, σ⟩ c with
    | some c => match k with
      | none => cCond c (codeC ty A a σ none) (codeC ty A b σ none)
      | some k => match falls a && falls b with
        | true => cSeq (cCond c (codeC ty A a σ none) (codeC ty A b σ none)) (k [])
        | false => cCond c (codeC ty A a σ (some k)) (codeC ty A b σ (some k))
    | none => cNo
  | .block id a, _, k => match k with
    | none => cBlock id (codeC ty A a [] none)
    | some k => cSeq (cBlock id (codeC ty A a [] none)) (k [])
  | .loop a, _, _ => match walkP A a with
    | some k => cWalk k (codeC ty A a [] none)
    | none => cLoop (codeC ty A a [] none)
  | .exit id, _, _ => cExit id
  | .ret, _, _ => cRet
  | .scope a, σ, k => codeC ty A a σ k
  | .label _, σ, k => thenC k σ
  | _, _, _ => cNo

/-- are the slots that are laid among the first n? -/
noncomputable def dstOk (n : Nat) : Code → Bool
  | .region _ ops _ => ops.toList.all fun o => match o.dst with
    | some d => Nat.blt d n
    | none => true
  | .seq a b => dstOk n a && dstOk n b
  | .cond _ a b => dstOk n a && dstOk n b
  | .block _ a => dstOk n a
  | .loop a => dstOk n a
  | .scope a => dstOk n a
  | _ => true
/-- is it a slot that is laid? -/
noncomputable def okSlot (A : List Nat) (t : Nat) : Bool := match memN t A with
  | true => false
  | false => Nat.blt t 320
noncomputable def rsC (ty : TTy) (A : List Nat) : List ResultVar → Option (List RV)
  | [] => some []
  | .tmp t :: l => match okSlot A t with
    | false => none
    | true => match rsC ty A l with
      | some r => some (.t (slotG t) :: r)
      | none => none
  | .cell a t :: l => match okSlot A a with
   | false => none
   | true => match ty.get t with
    | some ti => match rsC ty A l with
      | some r => match ti.k.agg with
        | true => some (.cN (slotG a) ti.size :: r)
        | false => some (.c1 (slotG a) :: r)
      | none => none
    | none => none
/-- a function -/
noncomputable def bodyC (ty : TTy) (A : List Nat) (fn : Func) : Option Body := match fn.body with
  | some c => match rsC ty A fn.results.toList with
    | some rs => match dstOk fn.ntmps c with
      | true => some ⟨rs, codeC ty A c [] none⟩
      | false => none
    | none => none
  | none => none
end Go.Proofs.Ytkafejncffinmaa

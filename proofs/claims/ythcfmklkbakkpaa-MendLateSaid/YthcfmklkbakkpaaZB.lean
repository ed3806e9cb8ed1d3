/-
  FROM THE MODEL's CODE TO THE CANONICAL MACHINE's: what is not served becomes a piece that never succeeds.
  The laws of trees and of slots. Printed by program (genrel.py).
  HOW THE CANONICAL MACHINE's VALUES AND HEAP STAND TO THE MODEL's.
  What the machine does to its heap, and what the model does to its own: the two stay related.
  Types; cells that are read and written: by the machine, and by the model.
  The operations, one by one: what the machine says is what the model does.
-/
import Derived.Test.YthcfmklkbakkpaaZA
import Derived.Laws.IdiomCopy
import Derived.ChangeKeysEq
import Derived.Laws.Entries
namespace Go.Proofs.Ythcfmklkbakkpaa
noncomputable section
open Go
def oNo : OpF := fun _ _ _ => .no
inductive TTy where
  | mt
  | nd (t : Option TI) (l r : TTy)
def TTy.get : TTy → Nat → Option TI
  | .mt, _ => none
  | .nd t _ _, 0 => t
  | .nd _ l r, Nat.succ k => match Nat.mod k 2 with
    | 0 => l.get (Nat.div k 2)
    | Nat.succ _ => r.get (Nat.div k 2)
def findM (name : String) : List (String × Nat) → Option Nat
  | [] => none
  | x :: l => match x.1 == name with
    | true => some x.2
    | false => findM name l
def TTy.meths (name : String) : TTy → (Nat → Nat) → List (Nat × Nat)
  | .mt, _ => []
  | .nd t l r, ix => match (match t with | some ti => findM name ti.ms | none => none) with
    | some f => (ix 0, f) :: (l.meths name (fun k => ix (Nat.succ (Nat.mul 2 k))) ++ r.meths name (fun k => ix (Nat.succ (Nat.succ (Nat.mul 2 k)))))
    | none => l.meths name (fun k => ix (Nat.succ (Nat.mul 2 k))) ++ r.meths name (fun k => ix (Nat.succ (Nat.succ (Nat.mul 2 k))))
def plainV : Value → Bool
  | .bool _ | .int _ _ | .string _ | .pointer none | .slice none 0 0 | .map none | .nilFunc | .nilIface => true
  | _ => false
def EB : Value → Bool
  | .agg cs => cs.toList.all plainV
  | v => plainV v
inductive Src where
  | s (n : Nat)
  | c (v : Value)
abbrev Sg := List (Nat × Src)
def Ci (t : Nat) : Sg → Option Src
  | [] => none
  | (d, s) :: l => match Nat.beq d t with
    | true => some s
    | false => Ci t l
def memN (t : Nat) : List Nat → Bool
  | [] => false
  | d :: l => match Nat.beq d t with
    | true => true
    | false => memN t l
def Eh (d : Nat) : Sg → Sg
  | [] => []
  | (t, .s n) :: l => match Nat.beq n d with
    | true => Eh d l
    | false => (t, .s n) :: Eh d l
  | (t, .c v) :: l => (t, .c v) :: Eh d l
def EG (d : Nat) : Sg → Sg
  | [] => []
  | (t, s) :: l => match Nat.beq t d with
    | true => EG d l
    | false => (t, s) :: EG d l
def Lm (A : List Nat) (σ : Sg) : Operand → Option Src
  | .tmp t => match Ci t σ with
    | some s => some s
    | none => match memN t A with
      | true => none
      | false => match Nat.blt t 320 with
        | true => some (.s t)
        | false => none
  | .const v => match EB v with
    | true => some (.c v)
    | false => none
  | .func f => some (.c (.func (.func f) #[] #[]))
  | .global _ => none
def Iw : Src → O
  | .s n => AB n
  | .c v => kV v
structure Fr where
  A : List Nat
  σ : Sg
def cO (f : Fr) (x : Operand) : Option O := match Lm f.A f.σ x with
  | some s => some (Iw s)
  | none => none
def cOs (f : Fr) : List Operand → Option (List O)
  | [] => some []
  | x :: l => match cO f x with
    | some y => match cOs f l with
      | some ys => some (y :: ys)
      | none => none
    | none => none
def cOo (f : Fr) : Option Operand → Option (Option O)
  | none => some none
  | some x => match cO f x with
    | some y => some (some y)
    | none => none
def w1 (f : Fr) (x : Operand) (k : O → OpF) : OpF := match cO f x with
  | some x => k x
  | none => oNo
def w2 (f : Fr) (x y : Operand) (k : O → O → OpF) : OpF := w1 f x fun x => w1 f y fun y => k x y
def wTy (ty : TTy) (t : Nat) (k : TI → OpF) : OpF := match ty.get t with
  | some ti => k ti
  | none => oNo
def zeroV (ti : TI) : Option Value := match ti.k.agg with
  | true => some (.agg ⟨ti.zero⟩)
  | false => match ti.zero with
    | [v] => some v
    | _ => none
def wZ (ti : TI) (k : OpF) : OpF := match Nat.beq (Bk ti.zero) ti.size with
  | true => k
  | false => oNo
def wZero (ti : TI) (k : Value → OpF) : OpF := match zeroV ti with
  | some z => k z
  | none => oNo
def E5 (f : Fr) (place : Nat → Option (Nat × Nat)) : List (Nat × Operand) → Option (List (Nat × Nat × O))
  | [] => some []
  | (i, x) :: l => match place i with
    | some (off, size) => match cO f x with
      | some y => match E5 f place l with
        | some r => some ((off, size, y) :: r)
        | none => none
      | none => none
    | none => none
def flatK (ty : TTy) : Nat → Nat → Option (List CK)
  | 0, _ => none
  | Nat.succ n, t => match ty.get t with
    | none => none
    | some ti => match ti.k with
      | .int k => some [.i k]
      | .bool => some [.b]
      | .string => some [.s]
      | .arr m e => match ty.get e with
        | some ei => match flatK ty n e with
          | some ks => match Nat.beq (Bk ks) ei.size with
            | true => match Nat.beq (Nat.mul m ei.size) ti.size with
              | true => some (BI ks m)
              | false => none
            | false => none
          | none => none
        | none => none
      | .struct fs => match flatF (flatK ty n) 0 fs with
        | some ks => match Nat.beq (Bk ks) ti.size with
          | true => some ks
          | false => none
        | none => none
      | _ => none
where
  flatF (rec : Nat → Option (List CK)) : Nat → List (Nat × Nat × Nat) → Option (List CK)
    | _, [] => some []
    | off, (o, s, t) :: l => match Nat.beq o off with
      | true => match rec t with
        | some ks => match Nat.beq (Bk ks) s with
          | true => match flatF rec (Nat.add off s) l with
            | some r => some (ks ++ r)
            | none => none
          | false => none
        | none => none
      | false => none
def Ig (fs : List (Nat × Nat × Nat)) (i : Nat) : Option (Nat × Nat) := match nth fs i with
  | some (o, s, _) => some (o, s)
  | none => none
def J0 : Operand → Bool
  | .const v => match v with
    | .nilIface => true
    | _ => false
  | _ => false
def PT (ty : TTy) (f : Fr) (op : BinOp) (t : Nat) (xo yo : Operand) : OpF := wTy ty t fun ti => w2 f xo yo fun x y => match ti.k with
  | .iface => match J0 yo with
    | true => match op with
      | .eql => JV false x
      | .neq => JV true x
      | _ => oNo
    | false => oNo
  | .int k => match op with
    | .add => A9 k (At k) x y
    | .sub => DF Int.sub k x y
    | .mul => DF Int.mul k x y
    | .quo => QU k x y
    | .rem => E4 k x y
    | .and => J8 Nat.land k x y
    | .or => J8 Nat.lor k x y
    | .xor => J8 Nat.xor k x y
    | .shl => Qp k x y
    | .shr => Mt k x y
    | .eql => AS iEq k x y
    | .neq => AS iNe k x y
    | .lss => AS iLt k x y
    | .leq => AS iLe k x y
    | .gtr => AS iGt k x y
    | .geq => AS iGe k x y
    | .andNot => oNo
  | .string => match op with
    | .add => TR x y
    | .eql => HF bEq x y
    | .neq => HF (fun a b => !bEq a b) x y
    | .lss => HF bLt x y
    | .gtr => HF (fun a b => bLt b a) x y
    | .leq => HF (fun a b => !bLt b a) x y
    | .geq => HF (fun a b => !bLt a b) x y
    | _ => oNo
  | .struct _ => match flatK ty 8 t with
    | some ks => match op with
      | .eql => Eo ⟨true, ks⟩ false x y
      | .neq => Eo ⟨true, ks⟩ true x y
      | _ => oNo
    | none => oNo
  | .arr _ _ => match flatK ty 8 t with
    | some ks => match op with
      | .eql => Eo ⟨true, ks⟩ false x y
      | .neq => Eo ⟨true, ks⟩ true x y
      | _ => oNo
    | none => oNo
  | _ => match op with
    | .eql => oEq ti.k false x y
    | .neq => oEq ti.k true x y
    | _ => oNo
def wKey (ty : TTy) (t : Nat) (k : KS → OpF) : OpF := wTy ty t fun ti => match ti.k with
  | .map kt _ => wTy ty kt fun ki => match flatK ty 8 kt with
    | some ks => k ⟨ki.k.agg, ks⟩
    | none => oNo
  | _ => oNo
def Gx (ty : TTy) (b : Builtin) (ats : List Nat) (args : List O) : OpF := match b, args with
  | .append, [s, x] => match ats with
    | t :: t2 :: _ => wTy ty t fun ti => wTy ty t2 fun xi => match ti.k, xi.k with
      | .slice en, .slice _ => wTy ty en fun ei => match ei.size with
        | 0 => oNo
        | Nat.succ es => wZ ei (Bb (Nat.succ es) ei.bytes en s x)
      | .slice en, .string => wTy ty en fun ei => match ei.size with
        | 0 => oNo
        | Nat.succ es => wZ ei (Bb (Nat.succ es) ei.bytes en s x)
      | .slice en, .int _ => wTy ty en fun ei => match ei.size with
        | 0 => oNo
        | Nat.succ es => wZ ei (IW (Nat.succ es) ei.bytes en ei.zero s x)
      | _, _ => oNo
    | _ => oNo
  | .len, [x] => match ats with
    | t :: _ => wTy ty t fun ti => match ti.k with
      | .slice _ => Am x
      | .string => LF x
      | .map _ _ => LE x
      | .arr n _ => AF (kV (.int .i64 (.ofNat n)))
      | _ => oNo
    | _ => oNo
  | .cap, [x] => match ats with
    | t :: _ => wTy ty t fun ti => match ti.k with
      | .slice _ => QM x
      | _ => oNo
    | _ => oNo
  | .copy, [d, x] => match ats with
    | t :: _ => wTy ty t fun ti => match ti.k with
      | .slice en => wTy ty en fun ei => QR ei.size d x
      | _ => oNo
    | _ => oNo
  | .min, [x, y] => Mr x y
  | .max, [x, y] => YM x y
  | .delete, [m, key] => match ats with
    | t :: _ => wKey ty t fun ks => Hl ks m key
    | _ => oNo
  | .clear, [m] => match ats with
    | t :: _ => wTy ty t fun ti => match ti.k with
      | .slice en => wTy ty en fun ei => wZ ei (GE ei.zero m)
      | .map _ _ => HD m
      | _ => oNo
    | _ => oNo
  | _, _ => oNo
def opC (ty : TTy) (f : Fr) : Op → OpF
  | .move x => w1 f x AF
  | .assign x => w1 f x AF
  | .pick c a b => w1 f c fun c => w2 f a b fun a b => AW c a b
  | .alloc t => wTy ty t fun ti => wZ ti (match B5 .mt 0 ti.zero with
    | some c => Au ti.size c
    | none => oNo)
  | .box _ x => w1 f x fun x => Bd x
  | .build t parts => wTy ty t fun ti => wZ ti (match ti.k with
    | .struct fs => match E5 f (Ig fs) parts.toList with
      | some ps => A8 ti.zero ps
      | none => oNo
    | .arr _ el => wTy ty el fun ei => match E5 f (fun i => some (Nat.mul i ei.size, ei.size)) parts.toList with
      | some ps => A8 ti.zero ps
      | none => oNo
    | _ => oNo)
  | .buildSlice t len parts => wTy ty t fun ti => match ti.k with
    | .slice el => wTy ty el fun ei => wZ ei (match E5 f (fun i => some (Nat.mul i ei.size, ei.size)) parts.toList with
      | some ps => match Nat.ble (Nat.mul len ei.size) 16777216 with
        | true => Ar len (BI ei.zero len) ps
        | false => oNo
      | none => oNo)
    | _ => oNo
  | .load t x => wTy ty t fun ti => w1 f x fun x => match ti.k.agg with
    | true => AL ti.size x
    | false => AH x
  | .store t x y => wTy ty t fun ti => w2 f x y fun x y => AM ti.size x y
  | .nilCheck x => w1 f x Bx
  | .binOp op t x y _ => PT ty f op t x y
  | .unOp op t x => wTy ty t fun ti => w1 f x fun x => match op, ti.k with
    | .not, _ => BF x
    | .neg, .int k => Qg k x
    | .xor, .int .u8 => QT x
    | _, _ => oNo
  | .convert src dst x => wTy ty src fun si => wTy ty dst fun di => w1 f x fun x => match di.k, si.k with
    | .int k, .int _ => CX k x
    | .string, .string => LK x
    | .string, .slice el => wTy ty el fun ei => match ei.k with
      | .int .u8 => EZ x
      | _ => oNo
    | .slice el, .string => wTy ty el fun ei => match ei.k with
      | .int .u8 => match Nat.beq ei.size 1 with
        | true => Ic el x
        | false => oNo
      | _ => oNo
    | .slice el, .slice _ => match Nat.beq src dst with
      | true => wTy ty el fun ei => match ei.k with
        | .int .u8 => Mc x
        | _ => oNo
      | false => oNo
    | _, _ => oNo
  | .makeInterface t x => wTy ty t fun ti => w1 f x fun x => match ti.k with
    | .iface => oNo
    | _ => Ia t x
  | .makeFunc fn first cap => match cOs f first.toList, cOs f cap.toList with
    | some fs, some c => Do fn fs c
    | _, _ => oNo
  | .makeMap _ none => YL
  | .makeSlice t l c => wTy ty t fun ti => match ti.k with
    | .slice el => wTy ty el fun ei => wZ ei (w2 f l c fun l c => EQ ei.bytes ei.zero l c)
    | _ => oNo
  | .slice t x lo hi mx => wTy ty t fun ti => w1 f x fun x => match cOo f lo, cOo f hi, cOo f mx with
    | some lo, some hi, some mx => match ti.k with
      | .string => match mx with
        | none => Fs x lo hi
        | some _ => oNo
      | .slice el => wTy ty el fun ei => Ct el ei.size x lo hi mx
      | .arr n el => wTy ty el fun ei => Gf n ei.size x lo hi mx
      | _ => oNo
    | _, _, _ => oNo
  | .fieldAddr t x i => wTy ty t fun ti => w1 f x fun x => match ti.k with
    | .struct fs => match nth fs i with
      | some (o, Nat.succ _, _) => AD o x
      | some (_, 0, _) => oNo
      | none => oNo
    | _ => oNo
  | .field t x i => wTy ty t fun ti => w1 f x fun x => match ti.k with
    | .struct fs => match nth fs i with
      | some (o, _, ft) => wTy ty ft fun fi => HE fi.k.agg fi.size o x
      | none => oNo
    | _ => oNo
  | .indexAddr t x ix => wTy ty t fun ti => w2 f x ix fun x ix => match ti.k with
    | .arr n el => wTy ty el fun ei => CV n ei.size x ix
    | .slice el => wTy ty el fun ei => A2 ei.size x ix
    | _ => oNo
  | .index t x ix => wTy ty t fun ti => w2 f x ix fun x ix => match ti.k with
    | .arr n el => wTy ty el fun ei => oAt ei.k.agg n ei.size x ix
    | .string => IY x ix
    | _ => oNo
  | .lookup t x ix ok => wTy ty t fun ti => w2 f x ix fun x ix => match ti.k with
    | .map _ el => wTy ty el fun ei => wZ ei (wZero ei fun z => wKey ty t fun ks => Ho ks z ok x ix)
    | _ => oNo
  | .mapUpdate t m key x => wKey ty t fun ks => w1 f m fun m => w2 f key x fun key x => Fu ks m key x
  | .insert t m key x => wKey ty t fun ks => w1 f m fun m => w2 f key x fun key x => Fu ks m key x
  | .extract t i => w1 f t fun t => Ah i t
  | .range t x => wTy ty t fun ti => match ti.k with
    | .map _ _ => w1 f x fun x => Ms x
    | _ => oNo
  | .next x isStr => match isStr with
    | false => w1 f x fun x => Qh x
    | true => oNo
  | .entry x => w1 f x fun x => Mk x
  | .sliceToArrayPointer t x => wTy ty t fun ti => match ti.k with
    | .arr (Nat.succ n) _ => w1 f x fun x => QK (Nat.succ n) x
    | _ => oNo
  | .call c => match cOs f c.args.toList with
    | some args => match c.callee with
      | .builtin b => Gx ty b c.argTypes.toList args
      | .value g => match g with
        | .func g => AV g args
        | g => w1 f g fun g => Cy g args
      | .invoke recv name => w1 f recv fun x => Hn (ty.meths name fun k => k) x args
    | none => oNo
  | .typeAssert x _ t ok => wTy ty t fun ti => w1 f x fun x => match ti.k with
    | .iface => oNo
    | _ => wZ ti (wZero ti fun z => Hj t ok z x)
  | _ => oNo
inductive Kd where
  | p
  | a
  | r (x : Operand)
  | w (x : Operand)
  | q
def IO (ty : TTy) (t : Nat) : Bool := match ty.get t with
  | some ti => match ti.k with
    | .int _ => true
    | _ => false
  | none => false
def FR (ty : TTy) (t : Nat) : Bool := match ty.get t with
  | some ti => match ti.k with
    | .slice _ => true
    | _ => false
  | none => false
def MS (ty : TTy) (t : Nat) : Bool := match ty.get t with
  | some ti => match ti.k with
    | .map _ _ => true
    | _ => false
  | none => true
def kd (ty : TTy) : Op → Kd
  | .move _ => .p
  | .assign _ => .p
  | .pick .. => .p
  | .build .. => .p
  | .nilCheck _ => .p
  | .binOp .. => .p
  | .unOp .. => .p
  | .makeInterface .. => .p
  | .makeFunc .. => .p
  | .slice .. => .p
  | .fieldAddr .. => .p
  | .field .. => .p
  | .indexAddr .. => .p
  | .index .. => .p
  | .extract .. => .p
  | .sliceToArrayPointer .. => .p
  | .alloc _ => .a
  | .box .. => .a
  | .buildSlice .. => .a
  | .makeMap .. => .a
  | .makeSlice .. => .a
  | .load _ x => .r x
  | .lookup _ x _ _ => .r x
  | .convert src dst x => match Nat.beq src dst with
    | true => .q
    | false => match IO ty src with
      | true => .p
      | false => match FR ty dst with
        | true => .a
        | false => .r x
  | .store _ x _ => .w x
  | .mapUpdate _ m _ _ => .w m
  | .insert _ m _ _ => .w m
  | .call c => match c.callee with
    | .builtin .len => match c.args.toList with
      | [x] => match MS ty (c.argTypes.getD 0 0) with
        | true => .r x
        | false => .p
      | _ => .q
    | .builtin .min => .p
    | .builtin .max => .p
    | .builtin _ => match c.args.toList with
      | x :: _ => .w x
      | _ => .q
    | _ => .q
  | _ => .q
def FF (acc : List Nat) (m : Nat) : List Edge → Nat
  | [] => m
  | e :: l => match Region.binds .any e with
    | true => FF acc (Nat.lor m (Nat.lor (Nat.shiftLeft 1 e.on) ((nth acc e.on).getD 0))) l
    | false => FF acc m l
def N3 {β : Type} (x : Nat) (k : List Nat → β) : List Nat → β
  | [] => k [x]
  | y :: l => N3 x (fun l => k (y :: l)) l
def Rs {β : Type} (k : List Nat → β) : List Oper → List Nat → β
  | [], acc => k acc
  | o :: l, acc => forceN (FF acc 0 o.after.toList) fun m => N3 m (fun acc => Rs k l acc) acc
def isB (bs : List Nat) (i j : Nat) : Bool := match nth bs j with
  | some b => Nat.beq (Nat.mod (Nat.shiftRight b i) 2) 1
  | none => false
def KI (ops : List Oper) (o : Oper) : List Nat :=
  o.op.operands.toList.filterMap (fun x => match x with | .tmp t => some t | _ => none) ++
  (match o.guard with
    | some (j, _) => match nth ops j with
      | some oj => oj.dst.toList
      | none => []
    | none => [])
def Gn (ops : List Oper) (bs : List Nat) : Bool :=
  ops.zipIdx.all fun (o, i) => match o.dst with
    | none => true
    | some d => ops.zipIdx.all fun (p, j) => Nat.beq i j || isB bs (CQ i j) (i + j - CQ i j) || !(memN d (p.dst.toList ++ KI ops p))
def Pu (ops : List Oper) (bs : List Nat) : Bool :=
  ops.zipIdx.all fun (o, i) => match o.guard with
    | none => true
    | some (j, _) => isB bs j i
def Fj (ops : List Oper) : Bool := ops.zipIdx.all fun (o, i) => o.after.toList.all fun e => !(Region.binds .any e) || Nat.blt e.on i
def NY (ops : List Oper) (j : Nat) (x : Operand) (i : Nat) (rest : Option (List Operand)) : Option (List Operand) := match x with
  | .tmp t => match ops.zipIdx.any (fun (o, k) => Nat.ble i k && Nat.blt k j && memN t o.dst.toList) with
    | true => none
    | false => match rest with
      | some xs => some (x :: xs)
      | none => none
  | _ => none
def Pw (ops : List Oper) (j : Nat) (i : Nat) (rest : Option (List Operand)) (kx ky : Kd) : Option (List Operand) := match kx, ky with
  | .p, _ => rest
  | _, .p => rest
  | .w _, .w _ => none
  | .w _, .q => none
  | .q, .w _ => none
  | .w x, .r _ => NY ops j x i rest
  | .r x, .w _ => NY ops j x i rest
  | _, _ => rest
def apart (ty : TTy) (ops : List Oper) (bs : List Nat) (j : Nat) (oj : Oper) : List (Oper × Nat) → Option (List Operand)
  | [] => some []
  | (oi, i) :: l => match Nat.blt i j && !isB bs i j with
    | false => apart ty ops bs j oj l
    | true => Pw ops j i (apart ty ops bs j oj l) (kd ty oi.op) (kd ty oj.op)
def isQ : Kd → Bool
  | .q => true
  | _ => false
def isR : Kd → Bool
  | .r _ => true
  | _ => false
def isP : Kd → Bool
  | .p => true
  | _ => false
def loose (ty : TTy) (ops : List Oper) (bs : List Nat) (j : Nat) (ask : Nat → Kd → Bool) : Bool :=
  ops.zipIdx.any fun (o, i) => !(Nat.beq i j) && (!(isB bs (CQ i j) (i + j - CQ i j)) && ask i (kd ty o.op))
def strongQ (ty : TTy) (ops : List Oper) (bs : List Nat) (j : Nat) : Bool := loose ty ops bs j fun _ k => isQ k
def looseQ (ty : TTy) (ops : List Oper) (bs : List Nat) (j : Nat) : Bool := loose ty ops bs j fun _ k => !(isP k)
inductive Ahead where
  | plain
  | chk (old : Bool) (x : Operand) (xs : List Operand)
  | wr (x : Operand) (xs : List Operand)
  | quiet (m : Qm)
def chkOf (old : Bool) (x : Operand) (xs : List Operand) : Ahead := match old, xs with
  | false, [] => .plain
  | _, _ => .chk old x xs
def Hd (ty : TTy) (ops : List Oper) (bs : List Nat) (j : Nat) (o : Oper) : Option Ahead := match apart ty ops bs j o ops.zipIdx with
  | none => none
  | some xs => match kd ty o.op with
    | .q => match strongQ ty ops bs j, looseQ ty ops bs j with
      | true, _ => some (.quiet .strong)
      | false, true => some (.quiet .weak)
      | false, false => some (.quiet .free)
    | .a => some (.quiet .strong)
    | .r x => some (chkOf (loose ty ops bs j fun i k => isQ k && !(strongQ ty ops bs i)) x xs)
    | .w x => match loose ty ops bs j fun _ k => isR k with
      | true => some (.wr x xs)
      | false => some (.quiet .free)
    | _ => some .plain
def Jk (ty : TTy) (ops : List Oper) (bs : List Nat) : Nat → List Oper → Option (List Ahead)
  | _, [] => some []
  | j, o :: l => match Hd ty ops bs j o with
    | some a => match Jk ty ops bs (Nat.succ j) l with
      | some r => some (a :: r)
      | none => none
    | none => none
def NR (ty : TTy) (ops : List Oper) : Option (List Ahead) := Rs (fun bs => match Fj ops && (Pu ops bs && Gn ops bs) with
  | true => Jk ty ops bs 0 ops
  | false => none) ops []
def Gs (f : Fr) (a : Ahead) (o : OpF) (k : OpF → C) : C := match a with
  | .plain => k o
  | .quiet s => k (Aj s o)
  | .wr x xs => match cO f x, cOs f xs with
    | some x, some xs => Bi x xs (k (FI x o))
    | _, _ => cNo
  | .chk old x xs => match cO f x, cOs f xs with
    | some x, some xs => match old with
      | true => CR x (Bi x xs (k o))
      | false => Bi x xs (k o)
    | _, _ => cNo
def Ha (ty : TTy) (A : List Nat) (all : List Oper) (k : Sg → C) : List Ahead → List Oper → Sg → C
  | _, [], σ => k σ
  | as, o :: l, σ =>
    match o.guard, o.dst with
    | none, none => Gs ⟨A, σ⟩ (as.headD .plain) (opC ty ⟨A, σ⟩ o.op) fun p => cDo p (Ha ty A all k as.tail l σ)
    | none, some d => match memN d A with
      | true => match o.op with
        | .move x => match Lm A σ x with
          | some s => Ha ty A all k as.tail l ((d, s) :: EG d σ)
          | none => cNo
        | _ => cNo
      | false => match Nat.blt d 320 with
        | true => Gs ⟨A, σ⟩ (as.headD .plain) (opC ty ⟨A, σ⟩ o.op) fun p => AE (AC d) p (Ha ty A all k as.tail l (Eh d σ))
        | false => cNo
    | some (j, w), some d => match memN d A with
      | true => cNo
      | false => match nth all j with
        | some oj => match oj.dst with
          | some g => match cO ⟨A, σ⟩ (.tmp g) with
            | some g => match Nat.blt d 320 with
              | true => Gs ⟨A, σ⟩ (as.headD .plain) (opC ty ⟨A, σ⟩ o.op) fun p => cG g w (AC d) p (Ha ty A all k as.tail l (Eh d σ))
              | false => cNo
            | none => cNo
          | none => cNo
        | none => cNo
    | some _, none => cNo
def HM : Code → Bool
  | .exit _ => false
  | .ret => false
  | .seq a b => HM a && HM b
  | .cond _ a b => HM a || HM b
  | .loop _ => false
  | _ => true
def XZ : List Oper → List Nat
  | [] => []
  | o :: l => match o.dst with
    | some d => d :: XZ l
    | none => XZ l
def wrs : Code → List Nat
  | .region _ ops _ => XZ ops.toList
  | .seq a b => wrs a ++ wrs b
  | .cond _ a b => wrs a ++ wrs b
  | .block _ a => wrs a
  | .loop a => wrs a
  | .scope a => wrs a
  | _ => []
def VL (_ : List Nat) (_ : Code) : Option Walk := none
def Je (k : Option (Sg → C)) (σ : Sg) : C := match k with
  | some k => k σ
  | none => AQ
def CS (ty : TTy) (A : List Nat) : Code → Sg → Option (Sg → C) → C
  | .skip, σ, k => Je k σ
  | .region _ ops draw, σ, k => match draw with
    | false => Ha ty A ops.toList (Je k) [] ops.toList σ
    | true => match NR ty ops.toList with
      | some as => BH (Ha ty A ops.toList (Je k) as ops.toList σ)
      | none => cNo
  | .seq a b, σ, k => CS ty A a σ (some fun σ => CS ty A b σ k)
  | .cond c a b, σ, k => match cO ⟨A, σ⟩ c with
    | some c => match k with
      | none => AO c (CS ty A a σ none) (CS ty A b σ none)
      | some k => match HM a && HM b with
        | true => As (AO c (CS ty A a σ none) (CS ty A b σ none)) (k [])
        | false => AO c (CS ty A a σ (some k)) (CS ty A b σ (some k))
    | none => cNo
  | .block id a, _, k => match k with
    | none => Ab id (CS ty A a [] none)
    | some k => As (Ab id (CS ty A a [] none)) (k [])
  | .loop a, _, _ => match VL A a with
    | some _ => cNo
    | none => Ay (CS ty A a [] none)
  | .exit id, _, _ => A3 id
  | .ret, _, _ => Ak
  | .scope a, σ, k => CS ty A a σ k
  | .label _, σ, k => Je k σ
  | _, _, _ => cNo
def CO (n : Nat) : Code → Bool
  | .region _ ops _ => ops.toList.all fun o => match o.dst with
    | some d => Nat.blt d n
    | none => true
  | .seq a b => CO n a && CO n b
  | .cond _ a b => CO n a && CO n b
  | .block _ a => CO n a
  | .loop a => CO n a
  | .scope a => CO n a
  | _ => true
def KD (A : List Nat) (t : Nat) : Bool := match memN t A with
  | true => false
  | false => Nat.blt t 320
def rsC (ty : TTy) (A : List Nat) : List ResultVar → Option (List RV)
  | [] => some []
  | .tmp t :: l => match KD A t with
    | false => none
    | true => match rsC ty A l with
      | some r => some (.t (AB t) :: r)
      | none => none
  | .cell a t :: l => match KD A a with
   | false => none
   | true => match ty.get t with
    | some ti => match rsC ty A l with
      | some r => match ti.k.agg with
        | true => some (.cN (AB a) ti.size :: r)
        | false => some (.c1 (AB a) :: r)
      | none => none
    | none => none
def A4 (ty : TTy) (A : List Nat) (fn : Func) : Option Body := match fn.body with
  | some c => match rsC ty A fn.results.toList with
    | some rs => match CO fn.ntmps c with
      | true => some ⟨rs, CS ty A c [] none⟩
      | false => none
    | none => none
  | none => none
end
end Go.Proofs.Ythcfmklkbakkpaa
namespace Go.Proofs.Ythcfmklkbakkpaa
noncomputable section
open Go
namespace VT
theorem get_nd_succ (v : Value) (l r : VT) (k : Nat) : (VT.nd v l r).get (k + 1) = if k % 2 = 0 then l.get (k / 2) else r.get (k / 2) := by
  show MP l.get r.get k = _
  unfold MP
  have e : Nat.mod k 2 = k % 2 := rfl
  have e2 : Nat.div k 2 = k / 2 := rfl
  rw [e, e2]
  rcases Nat.mod_two_eq_zero_or_one k with h | h <;> rw [h] <;> rfl
theorem Cp (v : Value) (l r : VT) (k : Nat) (x : Value) : (VT.nd v l r).set (k + 1) x = if k % 2 = 0 then (l.set (k / 2) x).map (fun l' => .nd v l' r) else (r.set (k / 2) x).map (fun r' => .nd v l r') := by
  show Mz v l r l.set r.set x k = _
  unfold Mz
  have e : Nat.mod k 2 = k % 2 := rfl
  have e2 : Nat.div k 2 = k / 2 := rfl
  rw [e, e2]
  rcases Nat.mod_two_eq_zero_or_one k with h | h <;> rw [h]
  · show Q8 v r (l.set (k / 2) x) = _
    cases l.set (k / 2) x <;> rfl
  · show Q9 v l (r.set (k / 2) x) = _
    cases r.set (k / 2) x <;> rfl
theorem get_set : ∀ (t : VT) (i : Nat) (x : Value) (t' : VT), t.set i x = some t' → ∀ j, t'.get j = if j = i then x else t.get j
  | .mt, 0, x, t', h, j => by
    obtain rfl : VT.nd x .mt .mt = t' := Option.some.inj h
    cases j with
    | zero => rfl
    | succ j => rw [get_nd_succ]; simp [get]
  | .mt, i + 1, x, t', h, j => by cases h
  | .nd v l r, 0, x, t', h, j => by
    obtain rfl : VT.nd x l r = t' := Option.some.inj h
    cases j with
    | zero => rfl
    | succ j => rw [get_nd_succ, get_nd_succ]; simp
  | .nd v l r, i + 1, x, t', h, j => by
    rw [Cp] at h
    split at h
    · rename_i h0
      cases hs : l.set (i / 2) x with
      | none => rw [hs] at h; cases h
      | some l' =>
        rw [hs] at h
        obtain rfl : VT.nd v l' r = t' := Option.some.inj h
        cases j with
        | zero => rfl
        | succ j =>
          rw [get_nd_succ, get_nd_succ, get_set l _ x l' hs]
          split
          · rename_i h1
            by_cases e : j / 2 = i / 2
            · have : j = i := by omega
              simp [this]
            · have : ¬ j = i := by omega
              simp [e, this]
          · have : ¬ j = i := by omega
            simp [this]
    · rename_i h0
      cases hs : r.set (i / 2) x with
      | none => rw [hs] at h; cases h
      | some r' =>
        rw [hs] at h
        obtain rfl : VT.nd v l r' = t' := Option.some.inj h
        cases j with
        | zero => rfl
        | succ j =>
          rw [get_nd_succ, get_nd_succ, get_set r _ x r' hs]
          split
          · have : ¬ j = i := by omega
            simp [this]
          · rename_i h1
            by_cases e : j / 2 = i / 2
            · have : j = i := by omega
              simp [this]
            · have : ¬ j = i := by omega
              simp [e, this]
end VT
namespace BT
theorem get_nd_succ (v : Blk) (l r : BT) (k : Nat) : (BT.nd v l r).get (k + 1) = if k % 2 = 0 then l.get (k / 2) else r.get (k / 2) := by
  show MP l.get r.get k = _
  unfold MP
  have e : Nat.mod k 2 = k % 2 := rfl
  have e2 : Nat.div k 2 = k / 2 := rfl
  rw [e, e2]
  rcases Nat.mod_two_eq_zero_or_one k with h | h <;> rw [h] <;> rfl
theorem Cp (v : Blk) (l r : BT) (k : Nat) (x : Blk) : (BT.nd v l r).set (k + 1) x = if k % 2 = 0 then (l.set (k / 2) x).map (fun l' => .nd v l' r) else (r.set (k / 2) x).map (fun r' => .nd v l r') := by
  show Mz v l r l.set r.set x k = _
  unfold Mz
  have e : Nat.mod k 2 = k % 2 := rfl
  have e2 : Nat.div k 2 = k / 2 := rfl
  rw [e, e2]
  rcases Nat.mod_two_eq_zero_or_one k with h | h <;> rw [h]
  · show Q8 v r (l.set (k / 2) x) = _
    cases l.set (k / 2) x <;> rfl
  · show Q9 v l (r.set (k / 2) x) = _
    cases r.set (k / 2) x <;> rfl
theorem get_set : ∀ (t : BT) (i : Nat) (x : Blk) (t' : BT), t.set i x = some t' → ∀ j, t'.get j = if j = i then x else t.get j
  | .mt, 0, x, t', h, j => by
    obtain rfl : BT.nd x .mt .mt = t' := Option.some.inj h
    cases j with
    | zero => rfl
    | succ j => rw [get_nd_succ]; simp [get]
  | .mt, i + 1, x, t', h, j => by cases h
  | .nd v l r, 0, x, t', h, j => by
    obtain rfl : BT.nd x l r = t' := Option.some.inj h
    cases j with
    | zero => rfl
    | succ j => rw [get_nd_succ, get_nd_succ]; simp
  | .nd v l r, i + 1, x, t', h, j => by
    rw [Cp] at h
    split at h
    · rename_i h0
      cases hs : l.set (i / 2) x with
      | none => rw [hs] at h; cases h
      | some l' =>
        rw [hs] at h
        obtain rfl : BT.nd v l' r = t' := Option.some.inj h
        cases j with
        | zero => rfl
        | succ j =>
          rw [get_nd_succ, get_nd_succ, get_set l _ x l' hs]
          split
          · rename_i h1
            by_cases e : j / 2 = i / 2
            · have : j = i := by omega
              simp [this]
            · have : ¬ j = i := by omega
              simp [e, this]
          · have : ¬ j = i := by omega
            simp [this]
    · rename_i h0
      cases hs : r.set (i / 2) x with
      | none => rw [hs] at h; cases h
      | some r' =>
        rw [hs] at h
        obtain rfl : BT.nd v l r' = t' := Option.some.inj h
        cases j with
        | zero => rfl
        | succ j =>
          rw [get_nd_succ, get_nd_succ, get_set r _ x r' hs]
          split
          · have : ¬ j = i := by omega
            simp [this]
          · rename_i h1
            by_cases e : j / 2 = i / 2
            · have : j = i := by omega
              simp [this]
            · have : ¬ j = i := by omega
              simp [e, this]
end BT
def Hu (P : Nat → Prop) : Nat → Prop
  | 0 => True
  | Nat.succ n => P n ∧ Hu P n
theorem Hu.at {P : Nat → Prop} : ∀ {n : Nat}, Hu P n → ∀ i, i < n → P i
  | 0, _, i, h => absurd h (Nat.not_lt_zero i)
  | n + 1, H, i, h => by
    rcases Nat.lt_or_ge i n with hl | hg
    · exact Hu.at H.2 i hl
    · have : i = n := by omega
      exact this ▸ H.1
namespace V16
theorem get_set (y : Value) (v : V16) : ∀ i j, i < 16 → j < 16 → (set y v i).get j = if j = i then y else v.get j := by
  have H : Hu (fun i => Hu (fun j => (set y v i).get j = if j = i then y else v.get j) 16) 16 := by
    refine ⟨?_, ?_⟩; rotate_left; refine ⟨?_, ?_⟩; rotate_left; refine ⟨?_, ?_⟩; rotate_left; refine ⟨?_, ?_⟩; rotate_left; refine ⟨?_, ?_⟩; rotate_left; refine ⟨?_, ?_⟩; rotate_left; refine ⟨?_, ?_⟩; rotate_left; refine ⟨?_, ?_⟩; rotate_left; refine ⟨?_, ?_⟩; rotate_left; refine ⟨?_, ?_⟩; rotate_left; refine ⟨?_, ?_⟩; rotate_left; refine ⟨?_, ?_⟩; rotate_left; refine ⟨?_, ?_⟩; rotate_left; refine ⟨?_, ?_⟩; rotate_left; refine ⟨?_, ?_⟩; rotate_left; refine ⟨?_, ?_⟩; rotate_left; exact trivial
    all_goals repeat' (first | exact trivial | exact rfl | refine ⟨rfl, ?_⟩)
  exact fun i j hi hj => H.at i hi |>.at j hj
end V16
namespace E20
theorem get_set (y : V16) (v : E20) : ∀ i j, i < 20 → j < 20 → (set y v i).get j = if j = i then y else v.get j := by
  have H : Hu (fun i => Hu (fun j => (set y v i).get j = if j = i then y else v.get j) 20) 20 := by
    refine ⟨?_, ?_⟩; rotate_left; refine ⟨?_, ?_⟩; rotate_left; refine ⟨?_, ?_⟩; rotate_left; refine ⟨?_, ?_⟩; rotate_left; refine ⟨?_, ?_⟩; rotate_left; refine ⟨?_, ?_⟩; rotate_left; refine ⟨?_, ?_⟩; rotate_left; refine ⟨?_, ?_⟩; rotate_left; refine ⟨?_, ?_⟩; rotate_left; refine ⟨?_, ?_⟩; rotate_left; refine ⟨?_, ?_⟩; rotate_left; refine ⟨?_, ?_⟩; rotate_left; refine ⟨?_, ?_⟩; rotate_left; refine ⟨?_, ?_⟩; rotate_left; refine ⟨?_, ?_⟩; rotate_left; refine ⟨?_, ?_⟩; rotate_left; refine ⟨?_, ?_⟩; rotate_left; refine ⟨?_, ?_⟩; rotate_left; refine ⟨?_, ?_⟩; rotate_left; refine ⟨?_, ?_⟩; rotate_left; exact trivial
    all_goals repeat' (first | exact trivial | exact rfl | refine ⟨rfl, ?_⟩)
  exact fun i j hi hj => H.at i hi |>.at j hj
end E20
theorem Env.get_set (y : Value) (e : Env) (i j : Nat) (hi : i < 320) (hj : j < 320) : (Env.set i y e).get j = if j = i then y else e.get j := by
  unfold Env.set Env.get
  rw [E20.get_set _ _ _ _ (by omega) (by omega)]
  by_cases h : j / 16 = i / 16
  · rw [if_pos h, V16.get_set _ _ _ _ (by omega) (by omega)]
    by_cases h2 : j = i
    · rw [if_pos h2, if_pos (by rw [h2])]
    · rw [if_neg h2, if_neg (by omega), h]
  · rw [if_neg h, if_neg (by rintro rfl; exact h rfl)]
set_option maxRecDepth 100000 in
theorem EE (i : Nat) (h : i < 320) (e : Env) : AB i e = Env.get e i := by
  have H : Hu (fun i => AB i e = Env.get e i) 320 := by
    repeat' (first | exact trivial | refine ⟨rfl, ?_⟩)
  exact H.at i h
set_option maxRecDepth 100000 in
theorem Eq (i : Nat) (h : i < 320) (k : Env → X) (y : Value) (e : Env) : AC i k y e = k (Env.set i y e) := by
  have H : Hu (fun i => AC i k y e = k (Env.set i y e)) 320 := by
    repeat' (first | exact trivial | refine ⟨rfl, ?_⟩)
  exact H.at i h
end
end Go.Proofs.Ythcfmklkbakkpaa
namespace Go.Proofs.Ythcfmklkbakkpaa
noncomputable section
open Go
theorem G8 : ∀ (n i : Nat), (D7 n).get i = .dead
  | 0, i => rfl
  | n + 1, 0 => rfl
  | n + 1, k + 1 => by
    show (BT.nd .dead (D7 n) (D7 n)).get (k + 1) = _
    rw [BT.get_nd_succ]
    split <;> exact G8 n _
structure Pl where
  blk : Nat
  off : Nat
  sz : Nat
  room : Nat
  es : Nat
  inp : Bool := false
abbrev Phi := Nat → Option Pl
def RelA (φ : Phi) (a a' : Addr) : Prop :=
  a.spot = none ∧ a'.spot = none ∧ ∃ p, φ a.block = some p ∧ a'.block = p.blk ∧ a'.off = p.off + a.off
def RelS (φ : Phi) (a : Addr) (c : Nat) (a' : Addr) (c' : Nat) : Prop :=
  a.spot = none ∧ a'.spot = none ∧ ∃ p, φ a.block = some p ∧ a'.block = p.blk ∧
    ((0 < c ∧ a'.off = p.off + a.off ∧ (c' = c ∨ a.off + c * p.es = p.sz ∧ c ≤ c' ∧ a.off + c' * p.es ≤ p.room)) ∨
     (c = 0 ∧ (c' = 0 ∨ a'.off = p.off + p.sz ∧ p.sz + c' * p.es ≤ p.room)))
mutual
inductive RelV (φ : Phi) : Value → Value → Prop
  | bool (b : Bool) : RelV φ (.bool b) (.bool b)
  | int (k : IntKind) (n : Int) : RelV φ (.int k n) (.int k n)
  | string (s : ByteArray) : RelV φ (.string s) (.string s)
  | ptr0 : RelV φ (.pointer none) (.pointer none)
  | ptr {a a' : Addr} (h : RelA φ a a') : RelV φ (.pointer (some a)) (.pointer (some a'))
  | slice0 : RelV φ (.slice none 0 0) (.slice none 0 0)
  | slice {a a' : Addr} {n c c' : Nat} (hn : n ≤ c) (h : RelS φ a c a' c') : RelV φ (.slice (some a) n c) (.slice (some a') n c')
  | map0 : RelV φ (.map none) (.map none)
  | map {r : Nat} {p : Pl} (h : φ r = some p) : RelV φ (.map (some r)) (.map (some p.blk))
  | func (fn : Fn) {f f' c c' : List Value} (h : RelL φ f f') (h2 : RelL φ c c') : RelV φ (.func fn ⟨f⟩ ⟨c⟩) (.func fn ⟨f'⟩ ⟨c'⟩)
  | nilFunc : RelV φ .nilFunc .nilFunc
  | iface (t : TypeId) {v v' : Value} (h : RelV φ v v') : RelV φ (.iface t v) (.iface t v')
  | nilIface : RelV φ .nilIface .nilIface
  | agg {l l' : List Value} (h : RelL φ l l') : RelV φ (.agg ⟨l⟩) (.agg ⟨l'⟩)
  | tuple {l l' : List Value} (h : RelL φ l l') : RelV φ (.tuple ⟨l⟩) (.tuple ⟨l'⟩)
  | unk {v' : Value} : RelV φ (.chan none) v'
  | slcE {r : Nat} {a' : Addr} : RelV φ (.chan (some r)) (.slice (some a') 0 0)
inductive RelL (φ : Phi) : List Value → List Value → Prop
  | nil : RelL φ [] []
  | cons {v v' : Value} {l l' : List Value} (h : RelV φ v v') (t : RelL φ l l') : RelL φ (v :: l) (v' :: l')
end
def Phi.Le (φ ψ : Phi) : Prop := ∀ i p, φ i = some p → ψ i = some p
theorem Phi.Le.refl (φ : Phi) : φ.Le φ := fun _ _ h => h
theorem Phi.Le.trans {φ ψ χ : Phi} (h : φ.Le ψ) (h' : ψ.Le χ) : φ.Le χ := fun i p e => h' i p (h i p e)
theorem RelA.mono {φ ψ : Phi} (hle : φ.Le ψ) {a a' : Addr} : RelA φ a a' → RelA ψ a a'
  | ⟨s, s', p, hp, r⟩ => ⟨s, s', p, hle _ _ hp, r⟩
theorem RelS.mono {φ ψ : Phi} (hle : φ.Le ψ) {a a' : Addr} {c c' : Nat} : RelS φ a c a' c' → RelS ψ a c a' c'
  | ⟨s, s', p, hp, r⟩ => ⟨s, s', p, hle _ _ hp, r⟩
mutual
theorem RelV.mono {φ ψ : Phi} (hle : φ.Le ψ) : ∀ {v v' : Value}, RelV φ v v' → RelV ψ v v'
  | _, _, .bool b => .bool b
  | _, _, .int k n => .int k n
  | _, _, .string s => .string s
  | _, _, .ptr0 => .ptr0
  | _, _, .ptr h => .ptr (h.mono hle)
  | _, _, .slice0 => .slice0
  | _, _, .slice hn h => .slice hn (h.mono hle)
  | _, _, .map0 => .map0
  | _, _, .map h => .map (hle _ _ h)
  | _, _, .func fn h h2 => .func fn (RelL.mono hle h) (RelL.mono hle h2)
  | _, _, .nilFunc => .nilFunc
  | _, _, .iface t h => .iface t (RelV.mono hle h)
  | _, _, .nilIface => .nilIface
  | _, _, .agg h => .agg (RelL.mono hle h)
  | _, _, .tuple h => .tuple (RelL.mono hle h)
  | _, _, .unk => .unk
  | _, _, .slcE => .slcE
theorem RelL.mono {φ ψ : Phi} (hle : φ.Le ψ) : ∀ {l l' : List Value}, RelL φ l l' → RelL ψ l l'
  | _, _, .nil => .nil
  | _, _, .cons h t => .cons (RelV.mono hle h) (RelL.mono hle t)
end
theorem RelL.length {φ : Phi} : ∀ {l l' : List Value}, RelL φ l l' → l'.length = l.length
  | _, _, .nil => rfl
  | _, _, .cons _ t => congrArg (· + 1) t.length
theorem RelL.append {φ : Phi} : ∀ {l l' m m' : List Value}, RelL φ l l' → RelL φ m m' → RelL φ (l ++ m) (l' ++ m')
  | _, _, _, _, .nil, h => h
  | _, _, _, _, .cons h t, h' => .cons h (t.append h')
theorem RelL.get {φ : Phi} : ∀ {l l' : List Value}, RelL φ l l' → ∀ (i : Nat) (v : Value), l[i]? = some v → ∃ v', l'[i]? = some v' ∧ RelV φ v v'
  | _, _, .nil, i, v, h => by cases i <;> cases h
  | _, _, .cons h t, 0, v, e => by cases e; exact ⟨_, rfl, h⟩
  | _, _, .cons h t, i + 1, v, e => t.get i v e
theorem RelL.take {φ : Phi} : ∀ {l l' : List Value}, RelL φ l l' → ∀ n : Nat, RelL φ (l.take n) (l'.take n)
  | _, _, .nil, n => by cases n <;> exact .nil
  | _, _, .cons h t, 0 => .nil
  | _, _, .cons h t, n + 1 => .cons h (t.take n)
theorem RelL.drop {φ : Phi} : ∀ {l l' : List Value}, RelL φ l l' → ∀ n : Nat, RelL φ (l.drop n) (l'.drop n)
  | _, _, .nil, n => by cases n <;> exact .nil
  | _, _, .cons h t, 0 => .cons h t
  | _, _, .cons h t, n + 1 => t.drop n
theorem RelV.plain {φ : Phi} {v : Value} (h : plainV v = true) : RelV φ v v := by
  unfold plainV at h
  split at h <;> first | constructor | cases h
theorem RelL.plain {φ : Phi} : ∀ {l : List Value}, (l.all plainV) = true → RelL φ l l
  | [], _ => .nil
  | v :: l, h => by
    simp only [List.all_cons, Bool.and_eq_true] at h
    exact .cons (.plain h.1) (.plain h.2)
def Live (h : Hp) (i : Nat) : Prop := h.bl.get i ≠ .dead
inductive RelE (φ : Phi) : List Ent → List MapEntry → Prop
  | nil : RelE φ [] []
  | cons {k k' v v' : Value} {b : Nat} {l : List Ent} {l' : List MapEntry} (hk : RelV φ k k') (hv : RelV φ v v') (t : RelE φ l l') :
      RelE φ (⟨k, v, b⟩ :: l) (⟨k', v', b⟩ :: l')
theorem RelE.mono {φ ψ : Phi} (hle : φ.Le ψ) : ∀ {l : List Ent} {l' : List MapEntry}, RelE φ l l' → RelE ψ l l'
  | _, _, .nil => .nil
  | _, _, .cons hk hv t => .cons (hk.mono hle) (hv.mono hle) (t.mono hle)
def Kind (ty : TTy) (p : Pl) (s e : Nat) : Prop :=
  p.sz = s ∧ ((e = 0 ∧ p.room = p.sz ∧ p.es = 1 ∧ (p.off = 0 ∨ p.inp = true)) ∨ ∃ t ti, e = t + 1 ∧ ty.get t = some ti ∧ p.es = ti.size)
structure RelC (ty : TTy) (φ : Phi) (p : Pl) (c : VT) (s e : Nat) (cs : Array Value) (fr : Nat × Nat) : Prop where
  kind : Kind ty p s e
  room : p.sz ≤ p.room
  fits : p.off + p.room ≤ cs.size
  loose : (fr.1 = fr.2 ∨ cs.size ≤ fr.1) ∨ (e = 0 ∧ p.inp = true ∧ ∀ o, p.off ≤ o → o < p.off + p.room → ¬ (fr.1 ≤ o ∧ o < fr.2))
  cell : ∀ j, j < s → ∃ v, cs[p.off + j]? = some v ∧ RelV φ (c.get j) v
theorem RelC.sz {ty : TTy} {φ : Phi} {p : Pl} {c : VT} {s e : Nat} {cs : Array Value} {fr : Nat × Nat} (R : RelC ty φ p c s e cs fr) : p.sz = s := R.kind.1
inductive RelB (ty : TTy) (φ : Phi) (p : Pl) : Blk → Option Obj → Prop
  | cells {c s e cs t fr} (h : RelC ty φ p c s e cs fr) : RelB ty φ p (.cells c s e) (some (.cells cs t fr))
  | map {es clk es'} (h : RelE φ es es') : RelB ty φ p (.map es clk) (some (.map ⟨es'⟩ clk))
  | iter0 {s l t} (hp : p.off = 0) : RelB ty φ p (.iter none s l t) (some (.mapIter none s ⟨l⟩ t))
  | iter {m q s l t} (hp : p.off = 0) (h : φ m = some q) : RelB ty φ p (.iter (some m) s l t) (some (.mapIter (some q.blk) s ⟨l⟩ t))
  | cur {m q s sn l t} (hp : p.off = 0) (h : φ m = some q) (hl : l.getLast? = some s) : RelB ty φ p (.cur m s t) (some (.mapIter (some q.blk) sn ⟨l⟩ t))
  | dead {o} : RelB ty φ p .dead o
theorem RelB.mono {ty : TTy} {φ ψ : Phi} (hle : φ.Le ψ) {p : Pl} {b : Blk} {o : Option Obj} : RelB ty φ p b o → RelB ty ψ p b o
  | .cells h => .cells { h with cell := fun j hj => let ⟨v, e, r⟩ := h.cell j hj; ⟨v, e, r.mono hle⟩ }
  | .map h => .map (h.mono hle)
  | .iter0 h => .iter0 h
  | .iter hp h => .iter hp (hle _ _ h)
  | .cur hp h hl => .cur hp (hle _ _ h) hl
  | .dead => .dead
structure RelW (ty : TTy) (φ : Phi) (E : Nat → Prop) (h : Hp) (w : World) : Prop where
  dom : ∀ i p, φ i = some p → i < h.next ∧ p.blk < w.heap.size
  inj : ∀ i j p q, φ i = some p → φ j = some q → ¬ E i → ¬ E j → Live h i → Live h j → (p.inp = false ∨ q.inp = false) → p.blk = q.blk → i = j
  row : ∀ i p, φ i = some p → ¬ E i → RelB ty φ p (h.bl.get i) w.heap[p.blk]?
  fresh : ∀ i, h.next ≤ i → h.bl.get i = .dead
  kind : ∀ i p c s e, φ i = some p → h.bl.get i = .cells c s e → Kind ty p s e
  inp : ∀ i p, φ i = some p → p.inp = true → i < 256
def ShapeLe (a b : Blk) : Prop := b = .dead ∨ match a, b with
  | .cells _ s e, .cells _ s' e' => s = s' ∧ e = e'
  | .map _ _, .map _ _ => True
  | .iter _ _ _ _, .iter _ _ _ _ => True
  | .cur _ _ _, .cur _ _ _ => True
  | .pick _ _ _ _, .pick _ _ _ _ => True
  | _, _ => False
theorem ShapeLe.refl (a : Blk) : ShapeLe a a := by cases a <;> first | exact .inl rfl | exact .inr ⟨rfl, rfl⟩ | exact .inr trivial
theorem ShapeLe.trans {a b c : Blk} (h : ShapeLe a b) (h' : ShapeLe b c) : ShapeLe a c := by
  rcases h' with rfl | h'
  · exact .inl rfl
  · rcases h with rfl | h
    · cases c <;> exact h'.elim
    · cases a <;> cases b <;> first | (exact h.elim; done) | (cases c <;> first | (exact h'.elim; done) | exact .inr trivial | exact .inr ⟨h.1.trans h'.1, h.2.trans h'.2⟩)
theorem ShapeLe.of_dead {b : Blk} (h : ShapeLe .dead b) : b = .dead := by
  rcases h with h | h
  · exact h
  · cases b <;> exact h.elim
theorem ShapeLe.live {a b : Blk} (h : ShapeLe a b) (hb : b ≠ .dead) : a ≠ .dead := by
  intro ha; subst ha; exact hb h.of_dead
theorem ShapeLe.cells {a : Blk} {c : VT} {s e : Nat} (h : ShapeLe a (.cells c s e)) : ∃ c', a = .cells c' s e := by
  rcases h with h | h
  · cases h
  · cases a <;> first | (exact h.elim; done) | (obtain ⟨rfl, rfl⟩ := h; exact ⟨_, rfl⟩)
structure Evo (φ : Phi) (h : Hp) (w : World) (φ' : Phi) (h' : Hp) (w' : World) : Prop where
  le : φ.Le φ'
  new : ∀ i p, φ' i = some p → φ i = some p ∨ h.next ≤ i
  next : h.next ≤ h'.next
  size : w.heap.size ≤ w'.heap.size
  tape : w'.tape = w.tape
  os : w'.os = w.os
  output : w'.output = w.output
  frame : ∀ k, k < w.heap.size → (∀ i p, φ i = some p → p.inp = false → h'.low ≤ i → i ≤ h'.high → Live h i → p.blk ≠ k) → w'.heap[k]? = w.heap[k]?
  back : ∀ i p, φ' i = some p → Live h' i → p.blk < w.heap.size → ∃ j q, φ j = some q ∧ Live h j ∧ q.blk = p.blk ∧ q.inp = p.inp ∧ (j = i ∨ h'.low ≤ j ∧ j ≤ h'.high)
  kept : ∀ i, i < h.next → (i < h'.low ∨ h'.high < i) → h'.bl.get i = h.bl.get i
  low : h'.low ≤ h.low
  high : h.high ≤ h'.high
  shape : ∀ i, i < h.next → ShapeLe (h.bl.get i) (h'.bl.get i)
  only : ∀ i, i < h.next → φ i = none → h'.bl.get i = h.bl.get i
  all : ∀ i, h.next ≤ i → i < h'.next → ∃ p, φ' i = some p
theorem Evo.refl (φ : Phi) (h : Hp) (w : World) : Evo φ h w φ h w where
  le := .refl φ
  new := fun _ _ e => .inl e
  next := Nat.le_refl _
  size := Nat.le_refl _
  tape := rfl
  os := rfl
  output := rfl
  frame := fun _ _ _ => rfl
  back := fun i p e hl _ => ⟨i, p, e, hl, rfl, rfl, .inl rfl⟩
  kept := fun _ _ _ => rfl
  low := Nat.le_refl _
  high := Nat.le_refl _
  shape := fun _ _ => .refl _
  only := fun _ _ _ => rfl
  all := fun _ h1 h2 => absurd h2 (Nat.not_lt.2 h1)
theorem Evo.trans {φ ψ χ : Phi} {h₁ h₂ h₃ : Hp} {w₁ w₂ w₃ : World}
    (a : Evo φ h₁ w₁ ψ h₂ w₂) (b : Evo ψ h₂ w₂ χ h₃ w₃) : Evo φ h₁ w₁ χ h₃ w₃ where
  le := a.le.trans b.le
  new := fun i p e => by
    rcases b.new i p e with h | h
    · exact a.new i p h
    · exact .inr (Nat.le_trans a.next h)
  next := Nat.le_trans a.next b.next
  size := Nat.le_trans a.size b.size
  tape := b.tape.trans a.tape
  os := b.os.trans a.os
  output := b.output.trans a.output
  frame := fun k hk hf => by
    have h1 : w₂.heap[k]? = w₁.heap[k]? := a.frame k hk fun i p e hn hl hg hv => hf i p e hn (Nat.le_trans b.low hl) (Nat.le_trans hg b.high) hv
    rw [← h1]
    refine b.frame k (Nat.lt_of_lt_of_le hk a.size) fun i p e hn hl hg hv hk' => ?_
    obtain ⟨j, q, ej, lj, hq, hqi, hor⟩ := a.back i p e hv (hk' ▸ hk)
    refine hf j q ej (hqi.trans hn) ?_ ?_ lj (hq.trans hk')
    · rcases hor with rfl | h
      · exact hl
      · exact Nat.le_trans b.low h.1
    · rcases hor with rfl | h
      · exact hg
      · exact Nat.le_trans h.2 b.high
  back := fun i p e hv hp => by
    obtain ⟨j, q, ej, lj, hq, hqi, hor⟩ := b.back i p e hv (Nat.lt_of_lt_of_le hp a.size)
    obtain ⟨k, r, ek, lk, hr, hri, hor'⟩ := a.back j q ej lj (hq ▸ hp)
    refine ⟨k, r, ek, lk, hr.trans hq, hri.trans hqi, ?_⟩
    rcases hor' with rfl | h
    · exact hor
    · exact .inr ⟨Nat.le_trans b.low h.1, Nat.le_trans h.2 b.high⟩
  kept := fun i hi hl => by
    rw [b.kept i (Nat.lt_of_lt_of_le hi a.next) hl, a.kept i hi (hl.imp (fun h => Nat.lt_of_lt_of_le h b.low) (fun h => Nat.lt_of_le_of_lt b.high h))]
  low := Nat.le_trans b.low a.low
  high := Nat.le_trans a.high b.high
  shape := fun i hi => (a.shape i hi).trans (b.shape i (Nat.lt_of_lt_of_le hi a.next))
  only := fun i hi h0 => by
    have h1 : ψ i = none := by
      cases e : ψ i with
      | none => rfl
      | some p =>
        rcases a.new i p e with h | h
        · rw [h0] at h; cases h
        · omega
    rw [b.only i (Nat.lt_of_lt_of_le hi a.next) h1, a.only i hi h0]
  all := fun i h1 h2 => by
    rcases Nat.lt_or_ge i h₂.next with h | h
    · obtain ⟨p, hp⟩ := a.all i h1 h; exact ⟨p, b.le i p hp⟩
    · exact b.all i h h2
end
end Go.Proofs.Ythcfmklkbakkpaa
namespace Go.Proofs.Ythcfmklkbakkpaa
noncomputable section
open Go
theorem A0 {β : Type} (m : Nat) (k : Nat → β) : forceN m k = k m := by cases m <;> rfl
theorem BR (v : Value) (k : Value → R) : forceV v k = k v := by cases v <;> rfl
theorem Dn (v : Value) (h : Hp) : moveR v h = .ok v h := by cases v <;> rfl
theorem CA : ∀ (l : List Value) (k : List Value → R), forceL l k = k l
  | [], _ => rfl
  | v :: l, k => by
    show (forceV v fun v => forceL l fun l => k (v :: l)) = _
    rw [BR, CA l]
theorem Bf {α : Type} : ∀ l : List α, Bk l = l.length
  | [] => rfl
  | _ :: l => congrArg Nat.succ (Bf l)
theorem Fb {α : Type} : ∀ (n : Nat) (l : List α), HV n l = l.take n
  | 0, _ => rfl
  | _ + 1, [] => rfl
  | n + 1, x :: l => congrArg (x :: ·) (Fb n l)
theorem GR {α : Type} : ∀ (n : Nat) (l : List α), IB n l = l.drop n
  | 0, _ => rfl
  | _ + 1, [] => rfl
  | n + 1, _ :: l => GR n l
theorem EY {α : Type} : ∀ (l : List α) (i : Nat), nth l i = l[i]?
  | [], i => by cases i <;> rfl
  | x :: l, 0 => rfl
  | x :: l, i + 1 => by
    show nth l i = _
    rw [EY l i, List.getElem?_cons_succ]
theorem B0 (a b : Nat) : CQ a b = min a b := by
  unfold CQ
  rcases Nat.lt_or_ge b a with h | h
  · have : Nat.ble a b = false := by
      cases e : Nat.ble a b
      · rfl
      · exact absurd (Nat.le_of_ble_eq_true e) (Nat.not_le.2 h)
    rw [this]; exact (Nat.min_eq_right (Nat.le_of_lt h)).symm
  · rw [Nat.ble_eq_true_of_le h]; exact (Nat.min_eq_left h).symm
theorem Cd (a b : Nat) : DK a b = max a b := by
  unfold DK
  rcases Nat.lt_or_ge b a with h | h
  · have : Nat.ble a b = false := by
      cases e : Nat.ble a b
      · rfl
      · exact absurd (Nat.le_of_ble_eq_true e) (Nat.not_le.2 h)
    rw [this]; exact (Nat.max_eq_left (Nat.le_of_lt h)).symm
  · rw [Nat.ble_eq_true_of_le h]; exact (Nat.max_eq_right h).symm
theorem Az {a b : Nat} : Nat.ble a b = true ↔ a ≤ b := ⟨Nat.le_of_ble_eq_true, Nat.ble_eq_true_of_le⟩
theorem Bu {a b : Nat} : Nat.blt a b = true ↔ a < b := ⟨Nat.le_of_ble_eq_true, Nat.ble_eq_true_of_le⟩
theorem A1 {a b : Nat} : Nat.beq a b = true ↔ a = b := ⟨Nat.eq_of_beq_eq_true, fun h => h ▸ Nat.beq_refl a⟩
def Phi.put (φ : Phi) (i : Nat) (p : Pl) : Phi := fun j => if j = i then some p else φ j
theorem Phi.put_self (φ : Phi) (i : Nat) (p : Pl) : φ.put i p i = some p := if_pos rfl
theorem Phi.put_le {φ : Phi} {i : Nat} {p : Pl} (h : φ i = none) : φ.Le (φ.put i p) := fun j q e => by
  unfold Phi.put
  split
  · rename_i hji; rw [hji, h] at e; cases e
  · exact e
theorem Phi.put_cases {φ : Phi} {i : Nat} {p : Pl} {j : Nat} {q : Pl} (e : φ.put i p j = some q) : (j = i ∧ q = p) ∨ (j ≠ i ∧ φ j = some q) := by
  unfold Phi.put at e
  split at e
  · rename_i hji; cases e; exact .inl ⟨hji, rfl⟩
  · rename_i hji; exact .inr ⟨hji, e⟩
section
variable {ty : TTy} {φ : Phi} {E : Nat → Prop} {h : Hp} {w w' : World}
theorem RelW.none_next (H : RelW ty φ E h w) : φ h.next = none := by
  cases e : φ h.next with
  | none => rfl
  | some p => exact absurd (H.dom _ _ e).1 (Nat.lt_irrefl _)
theorem BT.live_set {bl bl' : BT} {i : Nat} {o : Blk} (hs : bl.set i o = some bl') (j : Nat) : bl'.get j = if j = i then o else bl.get j := BT.get_set _ _ _ _ hs j
theorem RelW.new (H : RelW ty φ E h w) {o : Blk} {bl : BT} {p : Pl} (hset : h.bl.set h.next o = some bl) (hsz : w.heap.size ≤ w'.heap.size) (hp : p.blk < w'.heap.size)
    (hfree : ∀ j q, φ j = some q → Live h j → q.blk ≠ p.blk) (hsame : ∀ k, k < w.heap.size → k ≠ p.blk → w'.heap[k]? = w.heap[k]?)
    (hB : RelB ty (φ.put h.next p) p o w'.heap[p.blk]?) {lo hi mk : Nat} (hin : p.inp = false := by rfl) :
    RelW ty (φ.put h.next p) E { next := Nat.succ h.next, low := lo, high := hi, mark := mk, bl := bl } w' where
  dom := fun i q e => by
    rcases Phi.put_cases e with ⟨rfl, rfl⟩ | ⟨_, e⟩
    · exact ⟨Nat.lt_succ_self _, hp⟩
    · exact ⟨Nat.lt_succ_of_lt (H.dom _ _ e).1, Nat.lt_of_lt_of_le (H.dom _ _ e).2 hsz⟩
  inj := fun i j q r ei ej hEi hEj hi hj hio hqr => by
    rcases Phi.put_cases ei with ⟨rfl, rfl⟩ | ⟨ni, ei'⟩ <;> rcases Phi.put_cases ej with ⟨rfl, rfl⟩ | ⟨nj, ej'⟩
    · rfl
    · refine absurd hqr.symm (hfree j r ej' ?_)
      intro hd; apply hj; show bl.get j = _; rw [BT.live_set hset, if_neg nj]; exact hd
    · refine absurd hqr (hfree i q ei' ?_)
      intro hd; apply hi; show bl.get i = _; rw [BT.live_set hset, if_neg ni]; exact hd
    · refine H.inj i j q r ei' ej' hEi hEj ?_ ?_ hio hqr
      · intro hd; apply hi; show bl.get i = _; rw [BT.live_set hset, if_neg ni]; exact hd
      · intro hd; apply hj; show bl.get j = _; rw [BT.live_set hset, if_neg nj]; exact hd
  row := fun i q e hE => by
    rcases Phi.put_cases e with ⟨rfl, rfl⟩ | ⟨ni, ei⟩
    · show RelB _ _ _ (bl.get h.next) _
      rw [BT.live_set hset, if_pos rfl]; exact hB
    · show RelB _ _ _ (bl.get i) _
      rw [BT.live_set hset, if_neg ni]
      by_cases hd : h.bl.get i = .dead
      · rw [hd]; exact .dead
      · have := H.row i q ei hE
        rw [hsame q.blk (H.dom _ _ ei).2 (hfree i q ei hd)]
        exact this.mono (Phi.put_le H.none_next)
  fresh := fun i hi => by
    show bl.get i = _
    have hi : h.next + 1 ≤ i := hi
    rw [BT.live_set hset, if_neg (by omega)]
    exact H.fresh i (by omega)
  kind := fun i q c s e hq he => by
    have he : bl.get i = .cells c s e := he
    rw [BT.live_set hset] at he
    rcases Phi.put_cases hq with ⟨rfl, rfl⟩ | ⟨ni, ei⟩
    · rw [if_pos rfl] at he
      rw [he] at hB
      generalize w'.heap[q.blk]? = ob at hB
      cases hB with
      | cells R => exact R.kind
    · rw [if_neg ni] at he
      exact H.kind i q c s e ei he
  inp := fun i q hq hi => by
    rcases Phi.put_cases hq with ⟨rfl, rfl⟩ | ⟨ni, ei⟩
    · rw [hin] at hi; cases hi
    · exact H.inp i q ei hi
theorem Evo.made (H : RelW ty φ E h w) {o : Blk} {bl : BT} {p : Pl} (hset : h.bl.set h.next o = some bl) (hp : w.heap.size ≤ p.blk) (hsz : w.heap.size ≤ w'.heap.size)
    (hsame : ∀ k, k < w.heap.size → w'.heap[k]? = w.heap[k]?) (ht : w'.tape = w.tape) (ho : w'.os = w.os) (hout : w'.output = w.output) :
    Evo φ h w (φ.put h.next p) { next := Nat.succ h.next, low := h.low, high := h.high, mark := h.mark, bl := bl } w' where
  le := Phi.put_le H.none_next
  new := fun i q e => by
    rcases Phi.put_cases e with ⟨rfl, rfl⟩ | ⟨_, e⟩
    · exact .inr (Nat.le_refl _)
    · exact .inl e
  next := Nat.le_succ _
  size := hsz
  tape := ht
  os := ho
  output := hout
  frame := fun k hk _ => hsame k hk
  back := fun i q e hl hq => by
    rcases Phi.put_cases e with ⟨rfl, rfl⟩ | ⟨ni, e⟩
    · exact absurd hq (Nat.not_lt.2 hp)
    · refine ⟨i, q, e, ?_, rfl, rfl, .inl rfl⟩
      intro hd; apply hl; show bl.get i = _; rw [BT.live_set hset, if_neg ni]; exact hd
  kept := fun i hi _ => by
    show bl.get i = _
    rw [BT.live_set hset, if_neg (by omega)]
  low := Nat.le_refl _
  high := Nat.le_refl _
  shape := fun i hi => by
    show ShapeLe _ (bl.get i)
    rw [BT.live_set hset, if_neg (by omega)]; exact .refl _
  only := fun i hi _ => by
    show bl.get i = _
    rw [BT.live_set hset, if_neg (by omega)]
  all := fun i h1 h2 => ⟨p, by
    have h2 : i < h.next + 1 := h2
    have : i = h.next := by omega
    rw [this]; exact Phi.put_self _ _ _⟩
theorem RelW.notInp (H : RelW ty φ E h w) {b : Nat} {p : Pl} (hb : φ b = some p) (h2 : 256 ≤ b) : p.inp = false := by
  cases e : p.inp with
  | false => rfl
  | true => have := H.inp b p hb e; omega
theorem RelW.put (H : RelW ty φ E h w) {b : Nat} {o : Blk} {bl : BT} {p : Pl} (hEb : ¬ E b) (h256 : 256 ≤ b) (hb : φ b = some p) (hl : Live h b) (hset : h.bl.set b o = some bl)
    (hsz : w'.heap.size = w.heap.size) (hsame : ∀ k, k ≠ p.blk → w'.heap[k]? = w.heap[k]?) (hB : RelB ty φ p o w'.heap[p.blk]?) {lo hi mk : Nat} :
    RelW ty φ E { next := h.next, low := lo, high := hi, mark := mk, bl := bl } w' where
  dom := fun i q e => ⟨(H.dom _ _ e).1, hsz ▸ (H.dom _ _ e).2⟩
  inj := fun i j q r ei ej hEi hEj hi hj hio hqr => by
    have live : ∀ i, bl.get i ≠ .dead → Live h i := fun i hi => by
      by_cases e : i = b
      · exact e ▸ hl
      · intro hd; apply hi; rw [BT.live_set hset, if_neg e]; exact hd
    exact H.inj i j q r ei ej hEi hEj (live i hi) (live j hj) hio hqr
  row := fun i q e hE => by
    show RelB _ _ _ (bl.get i) _
    rw [BT.live_set hset]
    split
    · rename_i hib; subst hib
      rw [hb] at e; cases e; exact hB
    · rename_i hib
      by_cases hd : h.bl.get i = .dead
      · rw [hd]; exact .dead
      · rw [hsame q.blk fun hq => hib (H.inj i b q p e hb hE hEb hd hl (.inr (H.notInp hb h256)) hq)]
        exact H.row i q e hE
  fresh := fun i hi => by
    show bl.get i = _
    have := (H.dom _ _ hb).1
    have hi : h.next ≤ i := hi
    rw [BT.live_set hset, if_neg (by omega)]
    exact H.fresh i hi
  kind := fun i q c s e hq he => by
    have he : bl.get i = .cells c s e := he
    rw [BT.live_set hset] at he
    split at he
    · rename_i hib; subst hib
      rw [hb] at hq; cases hq
      rw [he] at hB
      generalize w'.heap[p.blk]? = ob at hB
      cases hB with
      | cells R => exact R.kind
    · exact H.kind i q c s e hq he
  inp := H.inp
theorem Evo.put {b : Nat} {o : Blk} {bl : BT} {p : Pl} (hin : p.inp = false) (hb : φ b = some p) (hl : Live h b) (hset : h.bl.set b o = some bl) (hsh : ShapeLe (h.bl.get b) o)
    (hsz : w'.heap.size = w.heap.size) (hsame : ∀ k, k ≠ p.blk → w'.heap[k]? = w.heap[k]?) (ht : w'.tape = w.tape) (ho : w'.os = w.os) (hout : w'.output = w.output) :
    Evo φ h w φ { next := h.next, low := CQ h.low b, high := DK h.high b, mark := h.mark, bl := bl } w' where
  le := .refl φ
  new := fun _ _ e => .inl e
  next := Nat.le_refl _
  size := Nat.le_of_eq hsz.symm
  tape := ht
  os := ho
  output := hout
  frame := fun k _ hf => hsame k fun hk => hf b p hb hin (by show CQ _ _ ≤ _; rw [B0]; exact Nat.min_le_right _ _) (by show _ ≤ DK _ _; rw [Cd]; exact Nat.le_max_right _ _) hl hk.symm
  back := fun i q e hi _ => by
    refine ⟨i, q, e, ?_, rfl, rfl, .inl rfl⟩
    by_cases e : i = b
    · exact e ▸ hl
    · intro hd; apply hi; show bl.get i = _; rw [BT.live_set hset, if_neg e]; exact hd
  kept := fun i _ hi => by
    show bl.get i = _
    have hi : i < CQ h.low b ∨ DK h.high b < i := hi
    rw [B0, Cd] at hi
    rw [BT.live_set hset, if_neg (by omega)]
  low := by show CQ _ _ ≤ _; rw [B0]; exact Nat.min_le_left _ _
  high := by show _ ≤ DK _ _; rw [Cd]; exact Nat.le_max_left _ _
  shape := fun i hi => by
    show ShapeLe _ (bl.get i)
    rw [BT.live_set hset]
    split
    · rename_i e; rw [e]; exact hsh
    · exact .refl _
  only := fun i hi h0 => by
    show bl.get i = _
    rw [BT.live_set hset, if_neg (fun e => by rw [e, hb] at h0; cases h0)]
  all := fun _ h1 h2 => absurd h2 (Nat.not_lt.2 h1)
theorem Evo.grow (H : RelW ty φ E h w) {b : Nat} {o : Blk} {bl bl' : BT} {p p' : Pl} (hin : p.inp = false) (hin' : p'.inp = false) (hb : φ b = some p) (hl : Live h b) (hkill : h.bl.set b .dead = some bl)
    (hset : bl.set h.next o = some bl') (hp : p'.blk = p.blk) (hsz : w'.heap.size = w.heap.size) (hsame : ∀ k, k ≠ p.blk → w'.heap[k]? = w.heap[k]?)
    (ht : w'.tape = w.tape) (ho : w'.os = w.os) (hout : w'.output = w.output) :
    Evo φ h w (φ.put h.next p') { next := Nat.succ h.next, low := CQ h.low b, high := DK h.high b, mark := h.mark, bl := bl' } w' where
  le := Phi.put_le H.none_next
  new := fun i q e => by
    rcases Phi.put_cases e with ⟨rfl, rfl⟩ | ⟨_, e⟩
    · exact .inr (Nat.le_refl _)
    · exact .inl e
  next := Nat.le_succ _
  size := Nat.le_of_eq hsz.symm
  tape := ht
  os := ho
  output := hout
  frame := fun k _ hf => hsame k fun hk => hf b p hb hin (by show CQ _ _ ≤ _; rw [B0]; exact Nat.min_le_right _ _) (by show _ ≤ DK _ _; rw [Cd]; exact Nat.le_max_right _ _) hl hk.symm
  back := fun i q e hi _ => by
    rcases Phi.put_cases e with ⟨rfl, rfl⟩ | ⟨ni, e⟩
    · exact ⟨b, p, hb, hl, hp.symm, hin.trans hin'.symm, .inr ⟨by show CQ _ _ ≤ _; rw [B0]; exact Nat.min_le_right _ _, by show _ ≤ DK _ _; rw [Cd]; exact Nat.le_max_right _ _⟩⟩
    · refine ⟨i, q, e, ?_, rfl, rfl, .inl rfl⟩
      intro hd; apply hi; show bl'.get i = _; rw [BT.live_set hset, if_neg ni, BT.live_set hkill]
      split
      · rfl
      · exact hd
  kept := fun i hi' hi => by
    show bl'.get i = _
    have hi : i < CQ h.low b ∨ DK h.high b < i := hi
    rw [B0, Cd] at hi
    rw [BT.live_set hset, if_neg (by omega), BT.live_set hkill, if_neg (by omega)]
  low := by show CQ _ _ ≤ _; rw [B0]; exact Nat.min_le_left _ _
  high := by show _ ≤ DK _ _; rw [Cd]; exact Nat.le_max_left _ _
  shape := fun i hi => by
    show ShapeLe _ (bl'.get i)
    rw [BT.live_set hset, if_neg (by omega), BT.live_set hkill]
    split
    · exact .inl rfl
    · exact .refl _
  only := fun i hi h0 => by
    show bl'.get i = _
    rw [BT.live_set hset, if_neg (by omega), BT.live_set hkill, if_neg (fun e => by rw [e, hb] at h0; cases h0)]
  all := fun i h1 h2 => ⟨p', by
    have h2 : i < h.next + 1 := h2
    have : i = h.next := by omega
    rw [this]; exact Phi.put_self _ _ _⟩
theorem RelW.kill (H : RelW ty φ E h w) {b : Nat} {bl : BT} (hkill : h.bl.set b .dead = some bl) {lo hi mk : Nat} :
    RelW ty φ E { next := h.next, low := lo, high := hi, mark := mk, bl := bl } w where
  dom := H.dom
  inj := fun i j q r ei ej hEi hEj hi hj hio hqr => by
    have live : ∀ i, bl.get i ≠ .dead → Live h i := fun i hi hd => by
      apply hi; rw [BT.live_set hkill]; split
      · rfl
      · exact hd
    exact H.inj i j q r ei ej hEi hEj (live i hi) (live j hj) hio hqr
  row := fun i q e hE => by
    show RelB _ _ _ (bl.get i) _
    rw [BT.live_set hkill]
    split
    · exact .dead
    · exact H.row i q e hE
  fresh := fun i hi => by
    show bl.get i = _
    rw [BT.live_set hkill]; split
    · rfl
    · exact H.fresh i hi
  kind := fun i q c s e hq he => by
    have he : bl.get i = .cells c s e := he
    rw [BT.live_set hkill] at he
    split at he
    · cases he
    · exact H.kind i q c s e hq he
  inp := H.inp
end
end
end Go.Proofs.Ythcfmklkbakkpaa
namespace Go.Proofs.Ythcfmklkbakkpaa
noncomputable section
open Go
inductive KOk (P : Program) : TK → TypeDesc → Prop
  | int (k : IntKind) : KOk P (.int k) (.int k)
  | bool : KOk P .bool .bool
  | string : KOk P .string .string
  | ptr (e : Nat) : KOk P (.ptr e) (.pointer e)
  | slice (e : Nat) : KOk P (.slice e) (.slice e)
  | arr (n e : Nat) : KOk P (.arr n e) (.array n e)
  | map (k e : Nat) : KOk P (.map k e) (.map k e)
  | struct {fs : List (Nat × Nat × Nat)} {fields : Array Field} (h : fields.toList.map (fun f => (f.offset, P.cellsOf f.type, f.type)) = fs)
      (hi : fields.toList.all (fun f => (P.info? f.type).isSome) = true) : KOk P (.struct fs) (.struct fields)
  | iface (ms : Array (String × TypeId)) : KOk P .iface (.interface ms)
  | func (a b : Array TypeId) (v : Bool) : KOk P .func (.func a b v)
  | other {d : TypeDesc} (h : (match d with | .struct _ | .array _ _ | .interface _ => true | _ => false) = false) : KOk P .other d
def fineS (P : Program) (t : Nat) : Bool := match P.underlying t with
  | some (.struct fs) => (fs.all fun f => f.name != "_") && !(P.cutTypes.any (·.2 == t)) && !P.stoodInHeld t
  | _ => true
structure TyOk (P : Program) (t : Nat) (ti : TI) : Prop where
  fine : fineS P t = true
  deep : 8 ≤ P.depth
  info : ∃ i, P.info? t = some i ∧ i.size = ti.size ∧ i.bytes = ti.bytes ∧
    ((ti.zero = [] ∧ 0 < ti.size) ∨ ∃ z, zeroV ti = some z ∧ i.zero = some z ∧ ti.zero.all plainV = true ∧ ti.zero.length = ti.size)
  und : ∃ d, P.underlying t = some d ∧ KOk P ti.k d
  ms : ∀ name f, findM name ti.ms = some f → ∀ v w, (method (P.types.size + Made.depth) t v name).run P w = .ok (f, v) w
def CN (P : Program) (ty : TTy) : Prop := ∀ t ti, ty.get t = some ti → TyOk P t ti
section
variable {P : Program} {ty : TTy} {φ : Phi} {E : Nat → Prop} {h h' : Hp} {w : World}
theorem CT {b : Nat} {c : VT} {s e : Nat} (hr : rowOf h b = .ok c s e) : h.bl.get b = .cells c s e := by
  unfold rowOf dJ at hr
  split at hr
  · cases hr; assumption
  · cases hr
theorem RelW.rowAt (H : RelW ty φ E h w) {b : Nat} {p : Pl} (hp : φ b = some p) (hE : ¬ E b) {c : VT} {s e : Nat} (hr : rowOf h b = .ok c s e) :
    ∃ cs t fr, w.heap[p.blk]? = some (.cells cs t fr) ∧ RelC ty φ p c s e cs fr := by
  have := H.row b p hp hE
  rw [CT hr] at this
  generalize w.heap[p.blk]? = o at this
  cases this with
  | cells h => exact ⟨_, _, _, rfl, h⟩
theorem RelC.lt {p : Pl} {c : VT} {s e : Nat} {cs : Array Value} {fr : Nat × Nat} (R : RelC ty φ p c s e cs fr) {j : Nat} (hj : j < s) : p.off + j < cs.size := by
  have h1 := R.sz; have h2 := R.room; have h3 := R.fits; omega
theorem Fi {b : Nat} {cs : Array Value} {t : TypeId} {fr : Nat × Nat} (hw : w.heap[b]? = some (.cells cs t fr)) (o : Nat) : w.cell? ⟨b, o, none⟩ = cs[o]? := by
  simp [World.cell?, hw]
theorem JC {b : Nat} {cs : Array Value} {t : TypeId} {fr : Nat × Nat} (hw : w.heap[b]? = some (.cells cs t fr)) (hl : fr.1 = fr.2 ∨ cs.size ≤ fr.1) {o : Nat} (ho : o < cs.size) :
    w.frozen? ⟨b, o, none⟩ = false := by
  obtain ⟨lo, hi⟩ := fr
  simp only [World.frozen?, hw]
  simp only [Bool.and_eq_false_iff, decide_eq_false_iff_not]
  simp only at hl
  omega
theorem RelC.hard {p : Pl} {c : VT} {s e : Nat} {cs : Array Value} {fr : Nat × Nat} (R : RelC ty φ p c s (e + 1) cs fr) : fr.1 = fr.2 ∨ cs.size ≤ fr.1 := by
  rcases R.loose with h | ⟨h, _⟩
  · exact h
  · cases h
theorem RelC.firm {p : Pl} {c : VT} {s e : Nat} {cs : Array Value} {fr : Nat × Nat} (R : RelC ty φ p c s e cs fr) (hp : p.inp = false) : fr.1 = fr.2 ∨ cs.size ≤ fr.1 := by
  rcases R.loose with h | ⟨_, h, _⟩
  · exact h
  · rw [hp] at h; cases h
theorem RelC.free {p : Pl} {c : VT} {s e : Nat} {cs : Array Value} {fr : Nat × Nat} (R : RelC ty φ p c s e cs fr) {b : Nat} {t : TypeId} (hw : w.heap[b]? = some (.cells cs t fr)) {o : Nat} (h1 : p.off ≤ o) (h2 : o < p.off + p.room) : w.frozen? ⟨b, o, none⟩ = false := by
  rcases R.loose with h | ⟨_, _, h⟩
  · exact JC hw h (by have := R.fits; omega)
  · have := h o h1 h2
    obtain ⟨lo, hi⟩ := fr
    simp only [World.frozen?, hw]
    simp only [Bool.and_eq_false_iff, decide_eq_false_iff_not]
    simp only at this
    omega
theorem Addr.add_is (b o n : Nat) : (⟨b, o, none⟩ : Addr).add n = ⟨b, o + n, none⟩ := by
  unfold Addr.add; split <;> simp_all
theorem RelA.eq {a a' : Addr} (h : RelA φ a a') : ∃ p, φ a.block = some p ∧ a' = ⟨p.blk, p.off + a.off, none⟩ := by
  obtain ⟨_, hs, p, hp, hb, ho⟩ := h
  cases a'; simp only at hs hb ho; subst hs; subst hb; subst ho
  exact ⟨p, hp, rfl⟩
def rowL (c : VT) (off n : Nat) : List Value := (List.range n).map fun j => c.get (off + j)
theorem EM (c : VT) (off : Nat) (k : List Value → R) : ∀ (n : Nat) (acc : List Value), MO c off k n acc = k (rowL c off n ++ acc)
  | 0, acc => rfl
  | n + 1, acc => by
    show forceV _ _ = _
    rw [BR, EM c off k n]
    simp only [rowL, List.range_succ, List.map_append, List.map_cons, List.map_nil, List.append_assoc, List.singleton_append]
    rfl
theorem ET (c : VT) (off n : Nat) : (rowL c off n).length = n := by simp [rowL]
theorem RelC.list {p : Pl} {c : VT} {s e : Nat} {cs : Array Value} {fr : Nat × Nat} (R : RelC ty φ p c s e cs fr) (off : Nat) : ∀ n, off + n ≤ s →
    ∃ l, RelL φ (rowL c off n) l ∧ ∀ j v, l[j]? = some v → cs[p.off + off + j]? = some v
  | 0, _ => ⟨[], .nil, fun j v hj => by cases hj⟩
  | n + 1, hn => by
    obtain ⟨l, hl, hc⟩ := R.list off n (by omega)
    obtain ⟨v, hv, hr⟩ := R.cell (off + n) (by omega)
    have hlen := hl.length
    rw [ET] at hlen
    refine ⟨l ++ [v], ?_, fun j u hj => ?_⟩
    · have : rowL c off (n + 1) = rowL c off n ++ [c.get (off + n)] := by simp [rowL, List.range_succ]
      rw [this]; exact hl.append (.cons hr .nil)
    · rcases Nat.lt_or_ge j n with hjn | hjn
      · rw [List.getElem?_append_left (by omega)] at hj; exact hc j u hj
      · rw [List.getElem?_append_right (by omega), hlen] at hj
        have : j = n := by
          rcases Nat.eq_or_lt_of_le hjn with h | h
          · exact h.symm
          · rw [List.getElem?_eq_none (by simp; omega)] at hj; cases hj
        subst this
        simp at hj; subst hj
        rw [← hv]; congr 1; omega
theorem K4 (H : RelW ty φ E h w) {a a' : Addr} {v : Value} (hr : load1 a h = .ok v h') (ha : RelA φ a a') (hE : ¬ E a.block) :
    h' = h ∧ ∃ v', w.cell? a' = some v' ∧ RelV φ v v' := by
  obtain ⟨p, hp, rfl⟩ := ha.eq
  unfold load1 at hr
  cases hrow : rowOf h a.block with
  | no => rw [hrow] at hr; cases hr
  | ok c s e =>
    obtain ⟨cs, t, fr, hw, R⟩ := H.rowAt hp hE hrow
    rw [hrow] at hr
    simp only at hr
    cases hb : Nat.blt a.off s with
    | false => rw [hb] at hr; cases hr
    | true =>
      rw [hb] at hr
      simp only [BR] at hr
      cases hr
      refine ⟨rfl, ?_⟩
      rw [Fi hw]
      exact R.cell _ (Bu.1 hb)
theorem K6 (H : RelW ty φ E h w) {a a' : Addr} (ha : RelA φ a a') (hE : ¬ E a.block) {c : VT} {s e n : Nat} (hrow : rowOf h a.block = .ok c s e) (hn : a.off + n ≤ s) :
    ∃ l, RelL φ (rowL c a.off n) l ∧ l.length = n ∧ (∀ w' : World, w'.heap = w.heap → (loadCells a' n).run P w' = .ok l.toArray w') ∧
      ∃ p cs t fr, φ a.block = some p ∧ w.heap[p.blk]? = some (.cells cs t fr) ∧ ∀ (j : Nat) (u : Value), l[j]? = some u → cs[p.off + a.off + j]? = some u := by
  obtain ⟨p, hp, rfl⟩ := ha.eq
  obtain ⟨cs, t, fr, hw, R⟩ := H.rowAt hp hE hrow
  obtain ⟨l, hl, hc⟩ := R.list a.off n hn
  have hlen : l.length = n := by rw [hl.length, ET]
  refine ⟨l, hl, hlen, fun w' hw' => ?_, p, cs, t, fr, hp, hw, hc⟩
  have := run_loadCells_list (P := P) w' ⟨p.blk, p.off + a.off, none⟩ l fun j v hj => by
    rw [Addr.add_is, Fi (hw'.symm ▸ hw)]; exact hc j v hj
  rw [hlen] at this
  exact this
theorem EC : ∀ (vs : List Value) (c : VT) (i : Nat) (c' : VT), B5 c i vs = some c' →
    ∀ j, c'.get j = if i ≤ j ∧ j < i + vs.length then vs.getD (j - i) undef else c.get j
  | [], c, i, c', hs, j => by
    obtain rfl : c = c' := Option.some.inj hs
    rw [if_neg (by simp)]
  | v :: vs, c, i, c', hs, j => by
    unfold B5 at hs
    cases h1 : c.set i v with
    | none => rw [h1] at hs; cases hs
    | some c1 =>
      rw [h1] at hs
      have ih := EC vs c1 (i + 1) c' hs j
      rw [ih, VT.get_set _ _ _ _ h1 j]
      by_cases hj : j = i
      · subst hj
        rw [if_neg (by omega), if_pos rfl, if_pos (by simp)]; simp
      · by_cases h2 : i + 1 ≤ j ∧ j < i + 1 + vs.length
        · rw [if_pos h2, if_pos (by simp only [List.length_cons]; omega)]
          have : j - i = (j - (i + 1)) + 1 := by omega
          rw [this]; rfl
        · rw [if_neg h2, if_neg hj, if_neg (by simp only [List.length_cons]; omega)]
theorem Ea (b : Nat) (t : TypeId) (fr : Nat × Nat) : ∀ (vs : List Value) (o : Nat) (cs : Array Value) (w : World), w.heap[b]? = some (.cells cs t fr) → o + vs.length ≤ cs.size →
    ∃ cs', (w.setCells b o vs).heap[b]? = some (.cells cs' t fr) ∧ cs'.size = cs.size ∧ (∀ j, cs'[j]? = if o ≤ j ∧ j < o + vs.length then vs[j - o]? else cs[j]?) ∧
      (w.setCells b o vs).heap.size = w.heap.size ∧ (∀ k, k ≠ b → (w.setCells b o vs).heap[k]? = w.heap[k]?) ∧
      (w.setCells b o vs).tape = w.tape ∧ (w.setCells b o vs).os = w.os ∧ (w.setCells b o vs).output = w.output
  | [], o, cs, w, hw, _ => ⟨cs, hw, rfl, fun j => by rw [if_neg (by simp)], rfl, fun _ _ => rfl, rfl, rfl, rfl⟩
  | v :: vs, o, cs, w, hw, hn => by
    simp only [List.length_cons] at hn
    have h1 : (w.setCell ⟨b, o, none⟩ v).heap[b]? = some (.cells (cs.setIfInBounds o v) t fr) := by
      simp [World.setCell, Array.getElem?_modify, hw]
    obtain ⟨cs', e1, e2, e3, e4, e5, e6, e7, e8⟩ := Ea b t fr vs (o + 1) (cs.setIfInBounds o v) _ h1 (by simpa using by omega)
    refine ⟨cs', e1, by simpa using e2, fun j => ?_, ?_, fun k hk => ?_, e6, e7, e8⟩
    · rw [e3]
      by_cases hj : j = o
      · subst hj
        rw [if_neg (by omega), if_pos (by simp)]
        simp [Array.getElem?_setIfInBounds]
        omega
      · by_cases h2 : o + 1 ≤ j ∧ j < o + 1 + vs.length
        · rw [if_pos h2, if_pos (by simp only [List.length_cons]; omega)]
          have : j - o = (j - (o + 1)) + 1 := by omega
          rw [this]; rfl
        · rw [if_neg h2, if_neg (by simp only [List.length_cons]; omega)]
          rw [Array.getElem?_setIfInBounds, if_neg (fun h => hj h.symm)]
    · rw [World.setCells, e4]; simp [World.setCell]
    · rw [World.setCells, e5 k hk]
      simp [World.setCell, Array.getElem?_modify, Ne.symm hk]
end
end
end Go.Proofs.Ythcfmklkbakkpaa
namespace Go.Proofs.Ythcfmklkbakkpaa
noncomputable section
open Go
def BD (ty : TTy) (φ : Phi) (E : Nat → Prop) (h : Hp) (w : World) (v : Value) (h' : Hp) (r : Result Value) : Prop :=
  ∃ v' w' φ', r = .ok v' w' ∧ RelV φ' v v' ∧ RelW ty φ' E h' w' ∧ Evo φ h w φ' h' w'
section
variable {P : Program} {ty : TTy} {φ : Phi} {E : Nat → Prop} {h h' : Hp} {w : World} {F : CallF} {e : Env} {v : Value}
theorem BD.same (H : RelW ty φ E h w) {v v' : Value} (hv : RelV φ v v') : BD ty φ E h w v h (.ok v' w) := ⟨v', w, φ, rfl, hv, H, .refl _ _ _⟩
theorem TyOk.size {t : Nat} {ti : TI} (T : TyOk P t ti) (w : World) : (sizeOf t).run P w = .ok ti.size w := by
  obtain ⟨i, hi, hs, _⟩ := T.info
  rw [run_sizeOf w hi]; simp [Program.cellsOf, hi, hs]
theorem TyOk.cells {t : Nat} {ti : TI} (T : TyOk P t ti) : P.cellsOf t = ti.size := by
  obtain ⟨i, hi, hs, _⟩ := T.info
  simp [Program.cellsOf, hi, hs]
theorem TyOk.desc {t : Nat} {ti : TI} (T : TyOk P t ti) : ∃ d, (∀ w, (underlying t).run P w = .ok d w) ∧ KOk P ti.k d := by
  obtain ⟨d, hd, hk⟩ := T.und
  exact ⟨d, run_underlying hd, hk⟩
theorem TyOk.zeroOk {t : Nat} {ti : TI} (T : TyOk P t ti) (hz : ti.zero.length = ti.size) :
    ∃ z, zeroV ti = some z ∧ (∀ w, (zeroValue t).run P w = .ok z w) ∧ z.cells.toList = ti.zero ∧ ti.zero.all plainV = true := by
  obtain ⟨i, hi, hs, _, hzz⟩ := T.info
  rcases hzz with ⟨h0, h1⟩ | ⟨z, hz1, hz2, hz3, _⟩
  · rw [h0] at hz; simp at hz; omega
  · refine ⟨z, hz1, fun w => ?_, ?_, hz3⟩
    · simp [zeroValue, run_typeInfo (w := w) hi, hz2]
    · unfold zeroV at hz1
      split at hz1
      · cases hz1; rfl
      · split at hz1
        · rename_i u hu
          cases hz1
          rw [hu] at hz3
          simp only [List.all_cons, List.all_nil, Bool.and_true] at hz3
          rw [hu]
          cases z <;> first | rfl | (simp [plainV] at hz3)
        · cases hz1
theorem TyOk.agg {t : Nat} {ti : TI} (T : TyOk P t ti) (w : World) : (isAgg t).run P w = .ok ti.k.agg w := by
  obtain ⟨d, hd, hk⟩ := T.desc
  unfold isAgg
  simp only [Sem.run_bind, hd, Result.andThen_ok]
  generalize ti.k = kk at hk
  cases hk <;> first | rfl | skip
  rename_i ho
  cases d <;> first | rfl | cases ho
theorem G1 {v v' : Value} (h : RelV φ v v') (hk : known v = true) : RelL φ (cellsOf v) v'.cells.toList := by
  cases h with
  | unk => cases hk
  | slcE => exact .cons .slcE .nil
  | agg h => exact h
  | bool b => exact .cons (.bool b) .nil
  | int k n => exact .cons (.int k n) .nil
  | string s => exact .cons (.string s) .nil
  | ptr0 => exact .cons .ptr0 .nil
  | ptr h => exact .cons (.ptr h) .nil
  | slice0 => exact .cons .slice0 .nil
  | slice hn h => exact .cons (.slice hn h) .nil
  | map0 => exact .cons .map0 .nil
  | map h => exact .cons (.map h) .nil
  | func fn h h2 => exact .cons (.func fn h h2) .nil
  | nilFunc => exact .cons .nilFunc .nil
  | iface t h => exact .cons (.iface t h) .nil
  | nilIface => exact .cons .nilIface .nil
  | tuple h => exact .cons (.tuple h) .nil
theorem LM {v v' : Value} (h : RelV φ v v') (h1 : Bn v = true) : v'.oneCell' = true := by
  cases h <;> first | rfl | cases h1
theorem F7 : ∀ {l l' : List Value}, RelL φ l l' → Bj l = true → ∀ v ∈ l', v.oneCell' = true
  | _, _, .nil, _, v, hm => by cases hm
  | _, _, .cons (v := u) h t, h1, v, hm => by
    unfold Bj at h1
    cases hu : Bn u with
    | false => rw [hu] at h1; cases h1
    | true =>
      rw [hu] at h1
      cases hm with
      | head => exact LM h hu
      | tail _ hm => exact F7 t h1 v hm
theorem De {b : Nat} {o : Blk} {k : Hp → R} (hr : DP h b o k = .ok v h') :
    ∃ bl, 256 ≤ b ∧ h.bl.set b o = some bl ∧ k { next := h.next, low := CQ h.low b, high := DK h.high b, mark := h.mark, bl := bl } = .ok v h' := by
  unfold DP at hr
  cases hb : Nat.ble 256 b with
  | false => rw [hb] at hr; cases hr
  | true =>
    rw [hb, cond_true] at hr
    split at hr
    · rename_i bl hs
      rw [A0, A0] at hr
      exact ⟨bl, Az.1 hb, hs, hr⟩
    · cases hr
theorem Fp {o : Blk} {k : Nat → Hp → R} (hr : EX h o k = .ok v h') :
    ∃ bl, h.bl.set h.next o = some bl ∧ k h.next { next := Nat.succ h.next, low := h.low, high := h.high, mark := h.mark, bl := bl } = .ok v h' := by
  unfold EX at hr
  split at hr
  · rename_i bl hs
    rw [A0] at hr
    exact ⟨bl, hs, hr⟩
  · cases hr
theorem BZ {c : Bool} {x : R} (hr : (bif c then x else .no) = .ok v h') : c = true ∧ x = .ok v h' := by
  cases c
  · cases hr
  · exact ⟨rfl, hr⟩
theorem Fx (H : RelW ty φ E h w) {a a' : Addr} {vs vs' : List Value} {k : Hp → R} (hr : CM a vs h k = .ok v h') (ha : RelA φ a a') (hv : RelL φ vs vs') (hE : ¬ E a.block) :
    ∃ h1 w1, k h1 = .ok v h' ∧ (storeCells a' vs').run P w = .ok () w1 ∧ RelW ty φ E h1 w1 ∧ Evo φ h w φ h1 w1 := by
  obtain ⟨p, hp, rfl⟩ := ha.eq
  unfold CM at hr
  split at hr
  case h_2 => cases hr
  rename_i c s e hrow
  obtain ⟨cs, t, fr, hw, R⟩ := H.rowAt hp hE hrow
  obtain ⟨hle, hr⟩ := BZ hr
  obtain ⟨hone, hr⟩ := BZ hr
  split at hr
  case h_2 => cases hr
  rename_i c' hset
  obtain ⟨bl, h256, hbl, hk⟩ := De hr
  have hle' : a.off + vs.length ≤ s := by
    have := Az.1 hle; rw [Bf] at this; exact this
  have hlen := hv.length
  have hsz := R.sz
  have hroom := R.room
  have hfits := R.fits
  obtain ⟨cs', e1, e2, e3, e4, e5, e6, e7, e8⟩ := Ea p.blk t fr vs' (p.off + a.off) cs w hw (by omega)
  have hrun : (storeCells ⟨p.blk, p.off + a.off, none⟩ vs').run P w = .ok () (w.setCells p.blk (p.off + a.off) vs') := by
    refine run_storeCells_cells (P := P) p.blk (p.off + a.off) vs' 0 w (fun j hj => ?_) (fun j hj => ?_) (F7 hv hone)
    · rw [Fi hw]; simp; omega
    · exact R.free hw (by omega) (by omega)
  have hl : Live h a.block := by
    unfold Live; rw [CT hrow]; intro hd; cases hd
  have hB : RelB ty φ p (.cells c' s e) ((w.setCells p.blk (p.off + a.off) vs').heap[p.blk]?) := by
    rw [e1]
    refine .cells { kind := R.kind, room := R.room, fits := by rw [e2]; exact R.fits, loose := by rw [e2]; exact R.loose, cell := fun j hj => ?_ }
    rw [EC vs c a.off c' hset j, e3]
    by_cases hin : a.off ≤ j ∧ j < a.off + vs.length
    · rw [if_pos hin, if_pos (by omega)]
      have hj' : p.off + j - (p.off + a.off) = j - a.off := by omega
      rw [hj']
      obtain ⟨v', hv1, hv2⟩ := hv.get (j - a.off) (vs[j - a.off]'(by omega)) (List.getElem?_eq_getElem (by omega))
      refine ⟨v', hv1, ?_⟩
      have : vs.getD (j - a.off) undef = vs[j - a.off]'(by omega) := by
        rw [List.getD_eq_getElem?_getD, List.getElem?_eq_getElem (by omega)]; rfl
      rw [this]; exact hv2
    · rw [if_neg hin, if_neg (by omega)]
      exact R.cell j hj
  exact ⟨_, _, hk, hrun, H.put hE h256 hp hl hbl e4 e5 hB, .put (H.notInp hp h256) hp hl hbl (by rw [CT hrow]; exact .inr ⟨rfl, rfl⟩) e4 e5 e6 e7 e8⟩
theorem IV (H : RelW ty φ E h w) {en : Nat} {cs : List Value} {c : VT} {n : Nat} {k : Nat → Hp → R} (hr : CU h en c n k = .ok v h') (hc : ∀ j, j < cs.length → c.get j = cs.getD j undef) (hn : n = cs.length)
    {cs' : Array Value} {t : TypeId} {fr : Nat × Nat} {p : Pl}
    (hp : p = { blk := w.heap.size, off := 0, sz := cs.length, room := cs'.size, es := p.es }) (hk : Kind ty p cs.length en) (hsz : cs.length ≤ cs'.size)
    (hfr : fr.1 = fr.2 ∨ cs'.size ≤ fr.1) (hrel : ∀ (j : Nat) (u : Value), cs[j]? = some u → ∃ u', cs'[j]? = some u' ∧ RelV φ u u') {w' : World} (hw' : w'.heap = w.heap.push (.cells cs' t fr))
    (ht : w'.tape = w.tape) (ho : w'.os = w.os) (hout : w'.output = w.output) :
    ∃ h1, k h.next h1 = .ok v h' ∧ RelW ty (φ.put h.next p) E h1 w' ∧ Evo φ h w (φ.put h.next p) h1 w' := by
  subst hn
  unfold CU at hr
  rw [A0] at hr
  obtain ⟨bl, hbl, hk'⟩ := Fp hr
  have hb : p.blk = w.heap.size := by rw [hp]
  have hs : w'.heap.size = w.heap.size + 1 := by rw [hw']; simp
  have hsame : ∀ k, k < w.heap.size → w'.heap[k]? = w.heap[k]? := fun k hk => by
    rw [hw', Array.getElem?_push_lt hk, Array.getElem?_eq_getElem hk]
  refine ⟨_, hk', H.new hbl (by omega) (by omega) (fun j q e _ => by have := (H.dom j q e).2; omega) (fun k hk _ => hsame k hk) ?_ (hin := by rw [hp]),
    .made H hbl (by omega) (by omega) hsame ht ho hout⟩
  have hpush : w'.heap[p.blk]? = some (.cells cs' t fr) := by rw [hw', hb]; simp
  rw [hpush]
  refine .cells { kind := hk, room := by rw [hp]; exact hsz, fits := by rw [hp]; simp, loose := .inl hfr, cell := fun j hj => ?_ }
  rw [hc j hj]
  obtain ⟨u', hu1, hu2⟩ := hrel j (cs[j]) (List.getElem?_eq_getElem hj)
  refine ⟨u', by rw [hp]; simpa using hu1, ?_⟩
  have : cs.getD j undef = cs[j] := by
    rw [List.getD_eq_getElem?_getD, List.getElem?_eq_getElem hj]; rfl
  rw [this]; exact hu2.mono (Phi.put_le H.none_next)
theorem Ik {cs : List Value} {c : VT} (hset : B5 .mt 0 cs = some c) : ∀ j, j < cs.length → c.get j = cs.getD j undef := fun j hj => by
  rw [EC cs .mt 0 c hset j, if_pos (by omega)]; rfl
theorem JR (H : RelW ty φ E h w) {en : Nat} {cs : List Value} {k : Nat → Hp → R} (hr : newRow h en cs k = .ok v h') {cs' : Array Value} {t : TypeId} {fr : Nat × Nat} {p : Pl}
    (hp : p = { blk := w.heap.size, off := 0, sz := cs.length, room := cs'.size, es := p.es }) (hk : Kind ty p cs.length en) (hsz : cs.length ≤ cs'.size)
    (hfr : fr.1 = fr.2 ∨ cs'.size ≤ fr.1) (hrel : ∀ (j : Nat) (u : Value), cs[j]? = some u → ∃ u', cs'[j]? = some u' ∧ RelV φ u u') {w' : World} (hw' : w'.heap = w.heap.push (.cells cs' t fr))
    (ht : w'.tape = w.tape) (ho : w'.os = w.os) (hout : w'.output = w.output) :
    ∃ h1, k h.next h1 = .ok v h' ∧ RelW ty (φ.put h.next p) E h1 w' ∧ Evo φ h w (φ.put h.next p) h1 w' := by
  unfold newRow at hr
  split at hr
  case h_2 => cases hr
  rename_i c hset
  exact IV H hr (Ik hset) (Bf _) hp hk hsz hfr hrel hw' ht ho hout
end
end
end Go.Proofs.Ythcfmklkbakkpaa

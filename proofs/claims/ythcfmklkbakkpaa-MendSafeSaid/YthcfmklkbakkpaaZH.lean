/-
  A table of types, held against the program by the kernel.
  THE TABLES OF THE CANONICAL MACHINE for this seat: what each type is, and the functions, each in a tree. Printed by program (tables.py).
-/
import Derived.Test.YthcfmklkbakkpaaZG
import Derived.Test.YthcfmklkbakkpaaProg
set_option linter.unusedSimpArgs false
set_option linter.unusedVariables false
namespace Go.Proofs.Ythcfmklkbakkpaa
noncomputable section
open Go
def veq : Value → Value → Bool
  | .bool a, .bool b => a == b
  | .int j a, .int k b => DX j k && iEq a b
  | .string a, .string b => bEq a.data.toList b.data.toList
  | .pointer none, .pointer none => true
  | .slice none 0 0, .slice none 0 0 => true
  | .map none, .map none => true
  | .nilFunc, .nilFunc => true
  | .nilIface, .nilIface => true
  | _, _ => false
def leq : List Value → List Value → Bool
  | [], [] => true
  | a :: x, b :: y => veq a b && leq x y
  | _, _ => false
def zeq : Value → Value → Bool
  | .agg a, .agg b => leq a.toList b.toList
  | .agg _, _ => false
  | a, b => veq a b
theorem Ry {a b : Value} (h : veq a b = true) : a = b := by
  unfold veq at h
  split at h
  · simpa using h
  · rw [Bool.and_eq_true, D7] at h
    have h1 := Fe h.1
    rw [h1, eq_of_beq h.2]
  · rw [Jw] at h
    rename_i a b
    have e1 := FR (a := a) (eq_of_beq h)
    have e2 := FR (a := b) rfl
    exact congrArg Value.string (e1.trans e2.symm)
  all_goals first | rfl | cases h
theorem QV : ∀ {a b : List Value}, leq a b = true → a = b
  | [], [], _ => rfl
  | x :: a, y :: b, h => by
    have h : (veq x y && leq a b) = true := h
    rw [Bool.and_eq_true] at h
    rw [Ry h.1, QV h.2]
  | [], _ :: _, h => by cases h
  | _ :: _, [], h => by cases h
theorem ba {a b : Value} (h : zeq a b = true) : a = b := by
  unfold zeq at h
  split at h
  · rename_i x y
    have := QV h
    congr 1
    exact Array.ext' this
  · cases h
  · exact Ry h
def Sw : List (Nat × Nat × Nat) → List (Nat × Nat × Nat) → Bool
  | [], [] => true
  | (a, b, c) :: x, (d, e, f) :: y => Nat.beq a d && (Nat.beq b e && (Nat.beq c f && Sw x y))
  | _, _ => false
theorem Nl : ∀ {x y : List (Nat × Nat × Nat)}, Sw x y = true → x = y
  | [], [], _ => rfl
  | (a, b, c) :: x, (d, e, f) :: y, h => by
    have h : (Nat.beq a d && (Nat.beq b e && (Nat.beq c f && Sw x y))) = true := h
    simp only [Bool.and_eq_true] at h
    rw [A2.1 h.1, A2.1 h.2.1, A2.1 h.2.2.1, Nl h.2.2.2]
  | [], _ :: _, h => by cases h
  | _ :: _, [], h => by cases h
def QR (P : Program) (k : TK) (d : TypeDesc) : Bool := match k, d with
  | .int a, .int b => DX a b
  | .bool, .bool => true
  | .string, .string => true
  | .ptr a, .pointer b => Nat.beq a b
  | .slice a, .slice b => Nat.beq a b
  | .arr n a, .array m b => Nat.beq n m && Nat.beq a b
  | .map n a, .map m b => Nat.beq n m && Nat.beq a b
  | .struct fs, .struct fields => Sw (fields.toList.map fun f => (f.offset, P.cellsOf f.type, f.type)) fs && fields.toList.all fun f => (P.info? f.type).isSome
  | .iface, .interface _ => true
  | .func, .func _ _ _ => true
  | .other, .struct _ => false
  | .other, .array _ _ => false
  | .other, .interface _ => false
  | .other, _ => true
  | _, _ => false
theorem QS {P : Program} {k : TK} {d : TypeDesc} (h : QR P k d = true) : KOk P k d := by
  unfold QR at h
  split at h
  · rw [Fe h]; exact .int _
  · exact .bool
  · exact .string
  · rw [A2.1 h]; exact .ptr _
  · rw [A2.1 h]; exact .slice _
  · rw [Bool.and_eq_true] at h
    rw [A2.1 h.1, A2.1 h.2]; exact .arr _ _
  · rw [Bool.and_eq_true] at h
    rw [A2.1 h.1, A2.1 h.2]; exact .map _ _
  · rw [Bool.and_eq_true] at h
    exact .struct (Nl h.1) h.2
  · exact .iface _
  · exact .func _ _ _
  · cases h
  · cases h
  · cases h
  · rename_i q1 q2 q3
    refine .other ?_
    split
    · rename_i f; exact absurd rfl (q1 f)
    · rename_i n e; exact absurd rfl (q2 n e)
    · rename_i m; exact absurd rfl (q3 m)
    · rfl
  · cases h
def SB (ti : TI) (z : Option Value) : Bool :=
  (match ti.zero with
    | [] => Nat.blt 0 ti.size
    | _ :: _ => false) ||
  (match zeroV ti, z with
    | some a, some b => zeq a b && (ti.zero.all plainV && Nat.beq (Bk ti.zero) ti.size)
    | _, _ => false)
theorem SC {ti : TI} {z : Option Value} (h : SB ti z = true) : (ti.zero = [] ∧ 0 < ti.size) ∨ ∃ y, zeroV ti = some y ∧ z = some y ∧ ti.zero.all plainV = true ∧ ti.zero.length = ti.size := by
  unfold SB at h
  rw [Bool.or_eq_true] at h
  rcases h with h | h
  · left
    split at h
    · rename_i hz; exact ⟨hz, Bt.1 h⟩
    · cases h
  · right
    split at h
    · rename_i a b ha
      simp only [Bool.and_eq_true] at h
      have h3 := A2.1 h.2.2
      rw [Be] at h3
      exact ⟨a, ha, by rw [ba h.1], h.2.1, h3⟩
    · cases h
def lJ (b : Bool) : TypeDesc → Bool
  | .pointer _ => b
  | _ => not b
def N6 (P : Program) (t : Nat) (name : String) (f : Nat) : Bool := match P.info? t with
  | some i => match i.methods.find? (·.name == name) with
    | some m => match m.path.toList with
      | [] => match m.func with
        | some (g, b) => match P.underlying t with
          | some d => Nat.beq g f && lJ b d
          | none => false
        | none => false
      | _ :: _ => false
    | none => false
  | none => false
theorem QY {P : Program} {t : Nat} {name : String} {f : Nat} (h : N6 P t name f = true) (v : Value) (w : World) : (method (P.types.size + Made.depth) t v name).run P w = .ok (f, v) w := by
  unfold N6 at h
  split at h
  · rename_i i hi
    split at h
    · rename_i m hm
      split at h
      · rename_i hp
        split at h
        · rename_i g b hg
          split at h
          · rename_i d hd
            rw [Bool.and_eq_true] at h
            have e1 := A2.1 h.1
            subst e1
            have h2 := h.2
            show (method ((P.types.size + 99) + 1) t v name).run P w = _
            unfold method
            simp only [typeInfo, Sem.run_bind, run_program, Result.andThen_ok, hi, Sem.run_pure, hm, hp, follow, hg, receiverAt, underlying, hd]
            cases d with
            | pointer e =>
              have hb : b = true := h2
              subst hb
              simp only [Place.get, Sem.run_bind, Sem.run_pure, Result.andThen_ok]
            | _ =>
              have hb : b = false := by
                have h2 : (!b) = true := h2
                cases b with
                | true => cases h2
                | false => rfl
              subst hb
              simp only [Place.get, Sem.run_bind, Sem.run_pure, Result.andThen_ok]
          · cases h
        · cases h
      · cases h
    · cases h
  · cases h
def N7 (P : Program) (t : Nat) : List (String × Nat) → Bool
  | [] => true
  | x :: l => N6 P t x.1 x.2 && N7 P t l
theorem LQ {P : Program} {t : Nat} : ∀ {l : List (String × Nat)}, N7 P t l = true → ∀ name f, findM name l = some f → ∀ v w, (method (P.types.size + Made.depth) t v name).run P w = .ok (f, v) w
  | [], _, name, f, h => by cases h
  | x :: l, hb, name, f, h => by
    have hb : (N6 P t x.1 x.2 && N7 P t l) = true := hb
    rw [Bool.and_eq_true] at hb
    unfold findM at h
    split at h
    · rename_i hn
      cases h
      rw [← eq_of_beq hn]
      exact fun v w => QY hb.1 v w
    · exact LQ hb.2 name f h
def tyB (P : Program) (t : Nat) (ti : TI) : Bool := match P.info? t with
  | some i => match P.underlying t with
    | some d => Nat.beq i.size ti.size && (Nat.beq i.bytes ti.bytes && (SB ti i.zero && (QR P ti.k d && (fineS P t && N7 P t ti.ms))))
    | none => false
  | none => false
theorem bY {P : Program} (hd : 8 ≤ P.depth) {t : Nat} {ti : TI} (h : tyB P t ti = true) : TyOk P t ti := by
  unfold tyB at h
  split at h
  · rename_i i hi
    split at h
    · rename_i d hu
      simp only [Bool.and_eq_true] at h
      exact ⟨h.2.2.2.2.1, hd, ⟨i, hi, A2.1 h.1, A2.1 h.2.1, SC h.2.2.1⟩, ⟨d, hu, QS h.2.2.2.1⟩, LQ h.2.2.2.2.2⟩
    · cases h
  · cases h
def ii (P : Program) (t : Nat) : Option TI → Bool
  | some ti => tyB P t ti
  | none => true
def PV (P : Program) : TTy → (Nat → Nat) → Bool
  | .mt, _ => true
  | .nd ti l r, ix => ii P (ix 0) ti && (PV P l (fun k => ix (Nat.succ (Nat.mul 2 k))) && PV P r (fun k => ix (Nat.succ (Nat.succ (Nat.mul 2 k)))))
theorem Ir {P : Program} (hd : 8 ≤ P.depth) : ∀ {t : TTy} {ix : Nat → Nat}, PV P t ix = true → ∀ i ti, t.get i = some ti → TyOk P (ix i) ti
  | .mt, ix, _, i, b, h => by cases h
  | .nd c l r, ix, hb, i, b, h => by
    have hb : (ii P (ix 0) c && (PV P l (fun k => ix (Nat.succ (Nat.mul 2 k))) && PV P r (fun k => ix (Nat.succ (Nat.succ (Nat.mul 2 k)))))) = true := hb
    simp only [Bool.and_eq_true] at hb
    cases i with
    | zero =>
      have h : c = some b := h
      subst h
      exact bY hd hb.1
    | succ k =>
      unfold TTy.get at h
      have e1 : Nat.mod k 2 = k % 2 := rfl
      have e2 : Nat.div k 2 = k / 2 := rfl
      rw [e1, e2] at h
      rcases Nat.mod_two_eq_zero_or_one k with hk | hk
      · rw [hk] at h
        have := Ir hd hb.2.1 (k / 2) b h
        have e : Nat.succ (Nat.mul 2 (k / 2)) = k + 1 := by show 2 * (k / 2) + 1 = k + 1; omega
        simp only [e] at this; exact this
      · rw [hk] at h
        have := Ir hd hb.2.2 (k / 2) b h
        have e : Nat.succ (Nat.succ (Nat.mul 2 (k / 2))) = k + 1 := by show 2 * (k / 2) + 1 + 1 = k + 1; omega
        simp only [e] at this; exact this
theorem bE {P : Program} {ty : TTy} (hd : Nat.ble 8 P.depth = true) (h : PV P ty (fun k => k) = true) : CJ P ty := fun t ti ht => Ir (Az.1 hd) h t ti ht
end
end Go.Proofs.Ythcfmklkbakkpaa
namespace Go.Proofs.Ythcfmklkbakkpaa
noncomputable section
open Go
def ty0 : TI := ⟨.other, 1, 0, [], []⟩
def ty1 : TI := ⟨.func, 1, 8, [.nilFunc], []⟩
def ty2 : TI := ⟨.int .i64, 1, 8, [.int .i64 0], []⟩
def ty3 : TI := ⟨.int .i64, 1, 8, [.int .i64 0], []⟩
def ty4 : TI := ⟨.bool, 1, 1, [.bool false], []⟩
def ty5 : TI := ⟨.int .u8, 1, 1, [.int .u8 0], []⟩
def ty6 : TI := ⟨.int .u8, 1, 1, [.int .u8 0], []⟩
def ty7 : TI := ⟨.struct [(0, 1, 2), (1, 1, 3), (2, 1, 4), (3, 1, 6)], 4, 24, [.int .i64 0, .int .i64 0, .bool false, .int .u8 0], []⟩
def ty9 : TI := ⟨.string, 1, 16, [.string .empty], []⟩
def nk : TI := ⟨.string, 1, 16, [.string .empty], [("Error", 105), ("RuntimeError", 106)]⟩
def nl : TI := ⟨.string, 1, 16, [.string .empty], [("Error", 107), ("RuntimeError", 108)]⟩
def np : TI := ⟨.int .u64, 1, 8, [.int .u64 0], []⟩
def nq : TI := ⟨.ptr 159, 1, 8, [.pointer none], [("Error", 111), ("RuntimeError", 112)]⟩
def nr : TI := ⟨.ptr 162, 1, 8, [.pointer none], [("Error", 113), ("RuntimeError", 114)]⟩
def nt : TI := ⟨.ptr 170, 1, 8, [.pointer none], [("Align", 115)]⟩
def nu : TI := ⟨.iface, 1, 16, [.nilIface], []⟩
def nv : TI := ⟨.int .i32, 1, 4, [.int .i32 0], []⟩
def nw : TI := ⟨.slice 40, 1, 24, [.slice none 0 0], []⟩
def Ru : TI := ⟨.slice 56, 1, 24, [.slice none 0 0], []⟩
def PX : TI := ⟨.slice 3, 1, 24, [.slice none 0 0], []⟩
def PY : TI := ⟨.slice 36, 1, 24, [.slice none 0 0], []⟩
def ny : TI := ⟨.struct [(0, 1, 3), (1, 1, 3), (2, 1, 3), (3, 1, 3), (4, 1, 23), (5, 1, 24), (6, 1, 25)], 7, 104, [.int .i64 0, .int .i64 0, .int .i64 0, .int .i64 0, .slice none 0 0, .slice none 0 0, .slice none 0 0], []⟩
def Hd : TI := ⟨.struct [(0, 1, 3), (1, 1, 3), (2, 1, 3), (3, 1, 3), (4, 1, 23), (5, 1, 24), (6, 1, 25)], 7, 104, [.int .i64 0, .int .i64 0, .int .i64 0, .int .i64 0, .slice none 0 0, .slice none 0 0, .slice none 0 0], []⟩
def nz : TI := ⟨.int .i64, 1, 8, [.int .i64 0], []⟩
def oB : TI := ⟨.other, 1, 0, [], []⟩
def oC : TI := ⟨.func, 1, 8, [.nilFunc], []⟩
def oD : TI := ⟨.slice 4, 1, 24, [.slice none 0 0], []⟩
def oE : TI := ⟨.int .u8, 1, 1, [.int .u8 0], []⟩
def oF : TI := ⟨.struct [(0, 1, 3), (1, 1, 32), (2, 1, 3)], 3, 24, [.int .i64 0, .int .u8 0, .int .i64 0], []⟩
def GL : TI := ⟨.struct [(0, 1, 3), (1, 1, 32), (2, 1, 3)], 3, 24, [.int .i64 0, .int .u8 0, .int .i64 0], []⟩
def oG : TI := ⟨.slice 73, 1, 24, [.slice none 0 0], []⟩
def Ec : TI := ⟨.slice 5, 1, 24, [.slice none 0 0], []⟩
def oH : TI := ⟨.struct [(0, 1, 3), (1, 1, 3), (2, 1, 32), (3, 1, 28), (4, 1, 35), (5, 1, 36), (6, 1, 3)], 7, 88, [.int .i64 0, .int .i64 0, .int .u8 0, .int .i64 0, .slice none 0 0, .slice none 0 0, .int .i64 0], []⟩
def I9 : TI := ⟨.struct [(0, 1, 3), (1, 1, 3), (2, 1, 32), (3, 1, 28), (4, 1, 35), (5, 1, 36), (6, 1, 3)], 7, 88, [.int .i64 0, .int .i64 0, .int .u8 0, .int .i64 0, .slice none 0 0, .slice none 0 0, .int .i64 0], []⟩
def oI : TI := ⟨.struct [(0, 1, 3), (1, 1, 4), (2, 1, 4), (3, 3, 34), (6, 7, 38)], 13, 128, [.int .i64 0, .bool false, .bool false, .int .i64 0, .int .u8 0, .int .i64 0, .int .i64 0, .int .i64 0, .int .u8 0, .int .i64 0, .slice none 0 0, .slice none 0 0, .int .i64 0], []⟩
def oJ : TI := ⟨.struct [(0, 1, 3), (1, 1, 4), (2, 1, 4), (3, 3, 34), (6, 7, 38)], 13, 128, [.int .i64 0, .bool false, .bool false, .int .i64 0, .int .u8 0, .int .i64 0, .int .i64 0, .int .i64 0, .int .u8 0, .int .i64 0, .slice none 0 0, .slice none 0 0, .int .i64 0], []⟩
def oK : TI := ⟨.func, 1, 8, [.nilFunc], []⟩
def oL : TI := ⟨.slice 34, 1, 24, [.slice none 0 0], []⟩
def oM : TI := ⟨.func, 1, 8, [.nilFunc], []⟩
def oN : TI := ⟨.func, 1, 8, [.nilFunc], []⟩
def oO : TI := ⟨.func, 1, 8, [.nilFunc], []⟩
def oP : TI := ⟨.func, 1, 8, [.nilFunc], []⟩
def oQ : TI := ⟨.func, 1, 8, [.nilFunc], []⟩
def oR : TI := ⟨.func, 1, 8, [.nilFunc], []⟩
def oS : TI := ⟨.func, 1, 8, [.nilFunc], []⟩
def oU : TI := ⟨.func, 1, 8, [.nilFunc], []⟩
def oV : TI := ⟨.func, 1, 8, [.nilFunc], []⟩
def oW : TI := ⟨.other, 1, 0, [], []⟩
def oX : TI := ⟨.func, 1, 8, [.nilFunc], []⟩
def oY : TI := ⟨.func, 1, 8, [.nilFunc], []⟩
def oZ : TI := ⟨.struct [(0, 1, 3), (1, 1, 4), (2, 1, 24)], 3, 40, [.int .i64 0, .bool false, .slice none 0 0], []⟩
def FE : TI := ⟨.struct [(0, 1, 3), (1, 1, 4), (2, 1, 24)], 3, 40, [.int .i64 0, .bool false, .slice none 0 0], []⟩
def oa : TI := ⟨.func, 1, 8, [.nilFunc], []⟩
def oc : TI := ⟨.func, 1, 8, [.nilFunc], []⟩
def od : TI := ⟨.func, 1, 8, [.nilFunc], []⟩
def oe : TI := ⟨.func, 1, 8, [.nilFunc], []⟩
def oh : TI := ⟨.func, 1, 8, [.nilFunc], []⟩
def ol : TI := ⟨.func, 1, 8, [.nilFunc], []⟩
def ic : TI := ⟨.ptr 94, 1, 8, [.pointer none], [("All", 48), ("Decode", 58), ("Need", 47), ("Rebuild", 49), ("cooperage/code.made", 57), ("cooperage/code.row", 59), ("cooperage/code.rows", 66), ("cooperage/code.told", 63)]⟩
def oq : TI := ⟨.other, 1, 0, [], []⟩
def ot : TI := ⟨.func, 1, 8, [.nilFunc], []⟩
def bX : TI := ⟨.ptr 98, 1, 8, [.pointer none], [("Add", 43), ("Div", 62), ("Inv", 56), ("Lay", 67), ("Mul", 85), ("cooperage/field.is", 53)]⟩
def ou : TI := ⟨.func, 1, 8, [.nilFunc], []⟩
def ov : TI := ⟨.func, 1, 8, [.nilFunc], []⟩
def GM : TI := ⟨.arr 3 3, 3, 24, [.int .i64 0, .int .i64 0, .int .i64 0], []⟩
def oz : TI := ⟨.func, 1, 8, [.nilFunc], []⟩
def o0 : TI := ⟨.int .u8, 1, 1, [.int .u8 0], []⟩
def pA : TI := ⟨.struct [(0, 1, 3), (1, 1, 3), (2, 1, 3), (3, 1, 71)], 4, 32, [.int .i64 0, .int .i64 0, .int .i64 0, .int .u8 0], []⟩
def Rw : TI := ⟨.struct [(0, 1, 3), (1, 1, 3), (2, 1, 3), (3, 1, 71)], 4, 32, [.int .i64 0, .int .i64 0, .int .i64 0, .int .u8 0], []⟩
def pB : TI := ⟨.func, 1, 8, [.nilFunc], []⟩
def pC : TI := ⟨.other, 1, 0, [], []⟩
def pD : TI := ⟨.func, 1, 8, [.nilFunc], []⟩
def pE : TI := ⟨.func, 1, 8, [.nilFunc], []⟩
def Rx : TI := ⟨.arr 5 32, 5, 5, BJ [.int .u8 0] 5, []⟩
def pF : TI := ⟨.func, 1, 8, [.nilFunc], []⟩
def pG : TI := ⟨.func, 1, 8, [.nilFunc], []⟩
def pH : TI := ⟨.func, 1, 8, [.nilFunc], []⟩
def pI : TI := ⟨.func, 1, 8, [.nilFunc], []⟩
def pJ : TI := ⟨.ptr 56, 1, 8, [.pointer none], []⟩
def pK : TI := ⟨.func, 1, 8, [.nilFunc], []⟩
def pL : TI := ⟨.func, 1, 8, [.nilFunc], []⟩
def pM : TI := ⟨.func, 1, 8, [.nilFunc], []⟩
def pN : TI := ⟨.func, 1, 8, [.nilFunc], []⟩
def pO : TI := ⟨.func, 1, 8, [.nilFunc], []⟩
def pP : TI := ⟨.slice 36, 1, 24, [.slice none 0 0], []⟩
def pQ : TI := ⟨.other, 1, 0, [], []⟩
def pR : TI := ⟨.func, 1, 8, [.nilFunc], []⟩
def pS : TI := ⟨.func, 1, 8, [.nilFunc], []⟩
def pT : TI := ⟨.struct [(0, 1, 66), (1, 1, 3), (2, 1, 89)], 3, 40, [.pointer none, .int .i64 0, .slice none 0 0], []⟩
def ie : TI := ⟨.struct [(0, 1, 66), (1, 1, 3), (2, 1, 89)], 3, 40, [.pointer none, .int .i64 0, .slice none 0 0], []⟩
def pU : TI := ⟨.arr 510 5, 510, 510, BJ [.int .u8 0] 510, []⟩
def pV : TI := ⟨.arr 256 3, 256, 2048, BJ [.int .i64 0] 256, []⟩
def pW : TI := ⟨.struct [(0, 1, 4), (1, 510, 95), (511, 256, 96)], 767, 2560, [.bool false, .int .u8 0, .int .u8 0, .int .u8 0, .int .u8 0, .int .u8 0, .int .u8 0, .int .u8 0, .int .u8 0, .int .u8 0, .int .u8 0, .int .u8 0, .int .u8 0, .int .u8 0, .int .u8 0, .int .u8 0, .int .u8 0, .int .u8 0, .int .u8 0, .int .u8 0, .int .u8 0, .int .u8 0, .int .u8 0, .int .u8 0, .int .u8 0, .int .u8 0, .int .u8 0, .int .u8 0, .int .u8 0, .int .u8 0, .int .u8 0, .int .u8 0, .int .u8 0, .int .u8 0, .int .u8 0, .int .u8 0, .int .u8 0, .int .u8 0, .int .u8 0, .int .u8 0, .int .u8 0, .int .u8 0, .int .u8 0, .int .u8 0, .int .u8 0, .int .u8 0, .int .u8 0, .int .u8 0, .int .u8 0, .int .u8 0, .int .u8 0, .int .u8 0, .int .u8 0, .int .u8 0, .int .u8 0, .int .u8 0, .int .u8 0, .int .u8 0, .int .u8 0, .int .u8 0, .int .u8 0, .int .u8 0, .int .u8 0, .int .u8 0, .int .u8 0, .int .u8 0, .int .u8 0, .int .u8 0, .int .u8 0, .int .u8 0, .int .u8 0, .int .u8 0, .int .u8 0, .int .u8 0, .int .u8 0, .int .u8 0, .int .u8 0, .int .u8 0, .int .u8 0, .int .u8 0, .int .u8 0, .int .u8 0, .int .u8 0, .int .u8 0, .int .u8 0, .int .u8 0, .int .u8 0, .int .u8 0, .int .u8 0, .int .u8 0, .int .u8 0, .int .u8 0, .int .u8 0, .int .u8 0, .int .u8 0, .int .u8 0, .int .u8 0, .int .u8 0, .int .u8 0, .int .u8 0, .int .u8 0, .int .u8 0, .int .u8 0, .int .u8 0, .int .u8 0, .int .u8 0, .int .u8 0, .int .u8 0, .int .u8 0, .int .u8 0, .int .u8 0, .int .u8 0, .int .u8 0, .int .u8 0, .int .u8 0, .int .u8 0, .int .u8 0, .int .u8 0, .int .u8 0, .int .u8 0, .int .u8 0, .int .u8 0, .int .u8 0, .int .u8 0, .int .u8 0, .int .u8 0, .int .u8 0, .int .u8 0, .int .u8 0, .int .u8 0, .int .u8 0, .int .u8 0, .int .u8 0, .int .u8 0, .int .u8 0, .int .u8 0, .int .u8 0, .int .u8 0, .int .u8 0, .int .u8 0, .int .u8 0, .int .u8 0, .int .u8 0, .int .u8 0, .int .u8 0, .int .u8 0, .int .u8 0, .int .u8 0, .int .u8 0, .int .u8 0, .int .u8 0, .int .u8 0, .int .u8 0, .int .u8 0, .int .u8 0, .int .u8 0, .int .u8 0, .int .u8 0, .int .u8 0, .int .u8 0, .int .u8 0, .int .u8 0, .int .u8 0, .int .u8 0, .int .u8 0, .int .u8 0, .int .u8 0, .int .u8 0, .int .u8 0, .int .u8 0, .int .u8 0, .int .u8 0, .int .u8 0, .int .u8 0, .int .u8 0, .int .u8 0, .int .u8 0, .int .u8 0, .int .u8 0, .int .u8 0, .int .u8 0, .int .u8 0, .int .u8 0, .int .u8 0, .int .u8 0, .int .u8 0, .int .u8 0, .int .u8 0, .int .u8 0, .int .u8 0, .int .u8 0, .int .u8 0, .int .u8 0, .int .u8 0, .int .u8 0, .int .u8 0, .int .u8 0, .int .u8 0, .int .u8 0, .int .u8 0, .int .u8 0, .int .u8 0, .int .u8 0, .int .u8 0, .int .u8 0, .int .u8 0, .int .u8 0, .int .u8 0, .int .u8 0, .int .u8 0, .int .u8 0, .int .u8 0, .int .u8 0, .int .u8 0, .int .u8 0, .int .u8 0, .int .u8 0, .int .u8 0, .int .u8 0, .int .u8 0, .int .u8 0, .int .u8 0, .int .u8 0, .int .u8 0, .int .u8 0, .int .u8 0, .int .u8 0, .int .u8 0, .int .u8 0, .int .u8 0, .int .u8 0, .int .u8 0, .int .u8 0, .int .u8 0, .int .u8 0, .int .u8 0, .int .u8 0, .int .u8 0, .int .u8 0, .int .u8 0, .int .u8 0, .int .u8 0, .int .u8 0, .int .u8 0, .int .u8 0, .int .u8 0, .int .u8 0, .int .u8 0, .int .u8 0, .int .u8 0, .int .u8 0, .int .u8 0, .int .u8 0, .int .u8 0, .int .u8 0, .int .u8 0, .int .u8 0, .int .u8 0, .int .u8 0, .int .u8 0, .int .u8 0, .int .u8 0, .int .u8 0, .int .u8 0, .int .u8 0, .int .u8 0, .int .u8 0, .int .u8 0, .int .u8 0, .int .u8 0, .int .u8 0, .int .u8 0, .int .u8 0, .int .u8 0, .int .u8 0, .int .u8 0, .int .u8 0, .int .u8 0, .int .u8 0, .int .u8 0, .int .u8 0, .int .u8 0, .int .u8 0, .int .u8 0, .int .u8 0, .int .u8 0, .int .u8 0, .int .u8 0, .int .u8 0, .int .u8 0, .int .u8 0, .int .u8 0, .int .u8 0, .int .u8 0, .int .u8 0, .int .u8 0, .int .u8 0, .int .u8 0, .int .u8 0, .int .u8 0, .int .u8 0, .int .u8 0, .int .u8 0, .int .u8 0, .int .u8 0, .int .u8 0, .int .u8 0, .int .u8 0, .int .u8 0, .int .u8 0, .int .u8 0, .int .u8 0, .int .u8 0, .int .u8 0, .int .u8 0, .int .u8 0, .int .u8 0, .int .u8 0, .int .u8 0, .int .u8 0, .int .u8 0, .int .u8 0, .int .u8 0, .int .u8 0, .int .u8 0, .int .u8 0, .int .u8 0, .int .u8 0, .int .u8 0, .int .u8 0, .int .u8 0, .int .u8 0, .int .u8 0, .int .u8 0, .int .u8 0, .int .u8 0, .int .u8 0, .int .u8 0, .int .u8 0, .int .u8 0, .int .u8 0, .int .u8 0, .int .u8 0, .int .u8 0, .int .u8 0, .int .u8 0, .int .u8 0, .int .u8 0, .int .u8 0, .int .u8 0, .int .u8 0, .int .u8 0, .int .u8 0, .int .u8 0, .int .u8 0, .int .u8 0, .int .u8 0, .int .u8 0, .int .u8 0, .int .u8 0, .int .u8 0, .int .u8 0, .int .u8 0, .int .u8 0, .int .u8 0, .int .u8 0, .int .u8 0, .int .u8 0, .int .u8 0, .int .u8 0, .int .u8 0, .int .u8 0, .int .u8 0, .int .u8 0, .int .u8 0, .int .u8 0, .int .u8 0, .int .u8 0, .int .u8 0, .int .u8 0, .int .u8 0, .int .u8 0, .int .u8 0, .int .u8 0, .int .u8 0, .int .u8 0, .int .u8 0, .int .u8 0, .int .u8 0, .int .u8 0, .int .u8 0, .int .u8 0, .int .u8 0, .int .u8 0, .int .u8 0, .int .u8 0, .int .u8 0, .int .u8 0, .int .u8 0, .int .u8 0, .int .u8 0, .int .u8 0, .int .u8 0, .int .u8 0, .int .u8 0, .int .u8 0, .int .u8 0, .int .u8 0, .int .u8 0, .int .u8 0, .int .u8 0, .int .u8 0, .int .u8 0, .int .u8 0, .int .u8 0, .int .u8 0, .int .u8 0, .int .u8 0, .int .u8 0, .int .u8 0, .int .u8 0, .int .u8 0, .int .u8 0, .int .u8 0, .int .u8 0, .int .u8 0, .int .u8 0, .int .u8 0, .int .u8 0, .int .u8 0, .int .u8 0, .int .u8 0, .int .u8 0, .int .u8 0, .int .u8 0, .int .u8 0, .int .u8 0, .int .u8 0, .int .u8 0, .int .u8 0, .int .u8 0, .int .u8 0, .int .u8 0, .int .u8 0, .int .u8 0, .int .u8 0, .int .u8 0, .int .u8 0, .int .u8 0, .int .u8 0, .int .u8 0, .int .u8 0, .int .u8 0, .int .u8 0, .int .u8 0, .int .u8 0, .int .u8 0, .int .u8 0, .int .u8 0, .int .u8 0, .int .u8 0, .int .u8 0, .int .u8 0, .int .u8 0, .int .u8 0, .int .u8 0, .int .u8 0, .int .u8 0, .int .u8 0, .int .u8 0, .int .u8 0, .int .u8 0, .int .u8 0, .int .u8 0, .int .u8 0, .int .u8 0, .int .u8 0, .int .u8 0, .int .u8 0, .int .u8 0, .int .u8 0, .int .u8 0, .int .u8 0, .int .u8 0, .int .u8 0, .int .u8 0, .int .u8 0, .int .u8 0, .int .u8 0, .int .u8 0, .int .u8 0, .int .u8 0, .int .u8 0, .int .u8 0, .int .u8 0, .int .u8 0, .int .u8 0, .int .u8 0, .int .u8 0, .int .u8 0, .int .u8 0, .int .u8 0, .int .u8 0, .int .u8 0, .int .u8 0, .int .u8 0, .int .u8 0, .int .u8 0, .int .u8 0, .int .u8 0, .int .u8 0, .int .i64 0, .int .i64 0, .int .i64 0, .int .i64 0, .int .i64 0, .int .i64 0, .int .i64 0, .int .i64 0, .int .i64 0, .int .i64 0, .int .i64 0, .int .i64 0, .int .i64 0, .int .i64 0, .int .i64 0, .int .i64 0, .int .i64 0, .int .i64 0, .int .i64 0, .int .i64 0, .int .i64 0, .int .i64 0, .int .i64 0, .int .i64 0, .int .i64 0, .int .i64 0, .int .i64 0, .int .i64 0, .int .i64 0, .int .i64 0, .int .i64 0, .int .i64 0, .int .i64 0, .int .i64 0, .int .i64 0, .int .i64 0, .int .i64 0, .int .i64 0, .int .i64 0, .int .i64 0, .int .i64 0, .int .i64 0, .int .i64 0, .int .i64 0, .int .i64 0, .int .i64 0, .int .i64 0, .int .i64 0, .int .i64 0, .int .i64 0, .int .i64 0, .int .i64 0, .int .i64 0, .int .i64 0, .int .i64 0, .int .i64 0, .int .i64 0, .int .i64 0, .int .i64 0, .int .i64 0, .int .i64 0, .int .i64 0, .int .i64 0, .int .i64 0, .int .i64 0, .int .i64 0, .int .i64 0, .int .i64 0, .int .i64 0, .int .i64 0, .int .i64 0, .int .i64 0, .int .i64 0, .int .i64 0, .int .i64 0, .int .i64 0, .int .i64 0, .int .i64 0, .int .i64 0, .int .i64 0, .int .i64 0, .int .i64 0, .int .i64 0, .int .i64 0, .int .i64 0, .int .i64 0, .int .i64 0, .int .i64 0, .int .i64 0, .int .i64 0, .int .i64 0, .int .i64 0, .int .i64 0, .int .i64 0, .int .i64 0, .int .i64 0, .int .i64 0, .int .i64 0, .int .i64 0, .int .i64 0, .int .i64 0, .int .i64 0, .int .i64 0, .int .i64 0, .int .i64 0, .int .i64 0, .int .i64 0, .int .i64 0, .int .i64 0, .int .i64 0, .int .i64 0, .int .i64 0, .int .i64 0, .int .i64 0, .int .i64 0, .int .i64 0, .int .i64 0, .int .i64 0, .int .i64 0, .int .i64 0, .int .i64 0, .int .i64 0, .int .i64 0, .int .i64 0, .int .i64 0, .int .i64 0, .int .i64 0, .int .i64 0, .int .i64 0, .int .i64 0, .int .i64 0, .int .i64 0, .int .i64 0, .int .i64 0, .int .i64 0, .int .i64 0, .int .i64 0, .int .i64 0, .int .i64 0, .int .i64 0, .int .i64 0, .int .i64 0, .int .i64 0, .int .i64 0, .int .i64 0, .int .i64 0, .int .i64 0, .int .i64 0, .int .i64 0, .int .i64 0, .int .i64 0, .int .i64 0, .int .i64 0, .int .i64 0, .int .i64 0, .int .i64 0, .int .i64 0, .int .i64 0, .int .i64 0, .int .i64 0, .int .i64 0, .int .i64 0, .int .i64 0, .int .i64 0, .int .i64 0, .int .i64 0, .int .i64 0, .int .i64 0, .int .i64 0, .int .i64 0, .int .i64 0, .int .i64 0, .int .i64 0, .int .i64 0, .int .i64 0, .int .i64 0, .int .i64 0, .int .i64 0, .int .i64 0, .int .i64 0, .int .i64 0, .int .i64 0, .int .i64 0, .int .i64 0, .int .i64 0, .int .i64 0, .int .i64 0, .int .i64 0, .int .i64 0, .int .i64 0, .int .i64 0, .int .i64 0, .int .i64 0, .int .i64 0, .int .i64 0, .int .i64 0, .int .i64 0, .int .i64 0, .int .i64 0, .int .i64 0, .int .i64 0, .int .i64 0, .int .i64 0, .int .i64 0, .int .i64 0, .int .i64 0, .int .i64 0, .int .i64 0, .int .i64 0, .int .i64 0, .int .i64 0, .int .i64 0, .int .i64 0, .int .i64 0, .int .i64 0, .int .i64 0, .int .i64 0, .int .i64 0, .int .i64 0, .int .i64 0, .int .i64 0, .int .i64 0, .int .i64 0, .int .i64 0, .int .i64 0, .int .i64 0, .int .i64 0, .int .i64 0, .int .i64 0, .int .i64 0, .int .i64 0, .int .i64 0, .int .i64 0, .int .i64 0, .int .i64 0, .int .i64 0, .int .i64 0, .int .i64 0, .int .i64 0, .int .i64 0, .int .i64 0, .int .i64 0, .int .i64 0, .int .i64 0, .int .i64 0, .int .i64 0, .int .i64 0, .int .i64 0, .int .i64 0, .int .i64 0, .int .i64 0, .int .i64 0, .int .i64 0, .int .i64 0, .int .i64 0, .int .i64 0], []⟩
def ig : TI := ⟨.struct [(0, 1, 4), (1, 510, 95), (511, 256, 96)], 767, 2560, [.bool false, .int .u8 0, .int .u8 0, .int .u8 0, .int .u8 0, .int .u8 0, .int .u8 0, .int .u8 0, .int .u8 0, .int .u8 0, .int .u8 0, .int .u8 0, .int .u8 0, .int .u8 0, .int .u8 0, .int .u8 0, .int .u8 0, .int .u8 0, .int .u8 0, .int .u8 0, .int .u8 0, .int .u8 0, .int .u8 0, .int .u8 0, .int .u8 0, .int .u8 0, .int .u8 0, .int .u8 0, .int .u8 0, .int .u8 0, .int .u8 0, .int .u8 0, .int .u8 0, .int .u8 0, .int .u8 0, .int .u8 0, .int .u8 0, .int .u8 0, .int .u8 0, .int .u8 0, .int .u8 0, .int .u8 0, .int .u8 0, .int .u8 0, .int .u8 0, .int .u8 0, .int .u8 0, .int .u8 0, .int .u8 0, .int .u8 0, .int .u8 0, .int .u8 0, .int .u8 0, .int .u8 0, .int .u8 0, .int .u8 0, .int .u8 0, .int .u8 0, .int .u8 0, .int .u8 0, .int .u8 0, .int .u8 0, .int .u8 0, .int .u8 0, .int .u8 0, .int .u8 0, .int .u8 0, .int .u8 0, .int .u8 0, .int .u8 0, .int .u8 0, .int .u8 0, .int .u8 0, .int .u8 0, .int .u8 0, .int .u8 0, .int .u8 0, .int .u8 0, .int .u8 0, .int .u8 0, .int .u8 0, .int .u8 0, .int .u8 0, .int .u8 0, .int .u8 0, .int .u8 0, .int .u8 0, .int .u8 0, .int .u8 0, .int .u8 0, .int .u8 0, .int .u8 0, .int .u8 0, .int .u8 0, .int .u8 0, .int .u8 0, .int .u8 0, .int .u8 0, .int .u8 0, .int .u8 0, .int .u8 0, .int .u8 0, .int .u8 0, .int .u8 0, .int .u8 0, .int .u8 0, .int .u8 0, .int .u8 0, .int .u8 0, .int .u8 0, .int .u8 0, .int .u8 0, .int .u8 0, .int .u8 0, .int .u8 0, .int .u8 0, .int .u8 0, .int .u8 0, .int .u8 0, .int .u8 0, .int .u8 0, .int .u8 0, .int .u8 0, .int .u8 0, .int .u8 0, .int .u8 0, .int .u8 0, .int .u8 0, .int .u8 0, .int .u8 0, .int .u8 0, .int .u8 0, .int .u8 0, .int .u8 0, .int .u8 0, .int .u8 0, .int .u8 0, .int .u8 0, .int .u8 0, .int .u8 0, .int .u8 0, .int .u8 0, .int .u8 0, .int .u8 0, .int .u8 0, .int .u8 0, .int .u8 0, .int .u8 0, .int .u8 0, .int .u8 0, .int .u8 0, .int .u8 0, .int .u8 0, .int .u8 0, .int .u8 0, .int .u8 0, .int .u8 0, .int .u8 0, .int .u8 0, .int .u8 0, .int .u8 0, .int .u8 0, .int .u8 0, .int .u8 0, .int .u8 0, .int .u8 0, .int .u8 0, .int .u8 0, .int .u8 0, .int .u8 0, .int .u8 0, .int .u8 0, .int .u8 0, .int .u8 0, .int .u8 0, .int .u8 0, .int .u8 0, .int .u8 0, .int .u8 0, .int .u8 0, .int .u8 0, .int .u8 0, .int .u8 0, .int .u8 0, .int .u8 0, .int .u8 0, .int .u8 0, .int .u8 0, .int .u8 0, .int .u8 0, .int .u8 0, .int .u8 0, .int .u8 0, .int .u8 0, .int .u8 0, .int .u8 0, .int .u8 0, .int .u8 0, .int .u8 0, .int .u8 0, .int .u8 0, .int .u8 0, .int .u8 0, .int .u8 0, .int .u8 0, .int .u8 0, .int .u8 0, .int .u8 0, .int .u8 0, .int .u8 0, .int .u8 0, .int .u8 0, .int .u8 0, .int .u8 0, .int .u8 0, .int .u8 0, .int .u8 0, .int .u8 0, .int .u8 0, .int .u8 0, .int .u8 0, .int .u8 0, .int .u8 0, .int .u8 0, .int .u8 0, .int .u8 0, .int .u8 0, .int .u8 0, .int .u8 0, .int .u8 0, .int .u8 0, .int .u8 0, .int .u8 0, .int .u8 0, .int .u8 0, .int .u8 0, .int .u8 0, .int .u8 0, .int .u8 0, .int .u8 0, .int .u8 0, .int .u8 0, .int .u8 0, .int .u8 0, .int .u8 0, .int .u8 0, .int .u8 0, .int .u8 0, .int .u8 0, .int .u8 0, .int .u8 0, .int .u8 0, .int .u8 0, .int .u8 0, .int .u8 0, .int .u8 0, .int .u8 0, .int .u8 0, .int .u8 0, .int .u8 0, .int .u8 0, .int .u8 0, .int .u8 0, .int .u8 0, .int .u8 0, .int .u8 0, .int .u8 0, .int .u8 0, .int .u8 0, .int .u8 0, .int .u8 0, .int .u8 0, .int .u8 0, .int .u8 0, .int .u8 0, .int .u8 0, .int .u8 0, .int .u8 0, .int .u8 0, .int .u8 0, .int .u8 0, .int .u8 0, .int .u8 0, .int .u8 0, .int .u8 0, .int .u8 0, .int .u8 0, .int .u8 0, .int .u8 0, .int .u8 0, .int .u8 0, .int .u8 0, .int .u8 0, .int .u8 0, .int .u8 0, .int .u8 0, .int .u8 0, .int .u8 0, .int .u8 0, .int .u8 0, .int .u8 0, .int .u8 0, .int .u8 0, .int .u8 0, .int .u8 0, .int .u8 0, .int .u8 0, .int .u8 0, .int .u8 0, .int .u8 0, .int .u8 0, .int .u8 0, .int .u8 0, .int .u8 0, .int .u8 0, .int .u8 0, .int .u8 0, .int .u8 0, .int .u8 0, .int .u8 0, .int .u8 0, .int .u8 0, .int .u8 0, .int .u8 0, .int .u8 0, .int .u8 0, .int .u8 0, .int .u8 0, .int .u8 0, .int .u8 0, .int .u8 0, .int .u8 0, .int .u8 0, .int .u8 0, .int .u8 0, .int .u8 0, .int .u8 0, .int .u8 0, .int .u8 0, .int .u8 0, .int .u8 0, .int .u8 0, .int .u8 0, .int .u8 0, .int .u8 0, .int .u8 0, .int .u8 0, .int .u8 0, .int .u8 0, .int .u8 0, .int .u8 0, .int .u8 0, .int .u8 0, .int .u8 0, .int .u8 0, .int .u8 0, .int .u8 0, .int .u8 0, .int .u8 0, .int .u8 0, .int .u8 0, .int .u8 0, .int .u8 0, .int .u8 0, .int .u8 0, .int .u8 0, .int .u8 0, .int .u8 0, .int .u8 0, .int .u8 0, .int .u8 0, .int .u8 0, .int .u8 0, .int .u8 0, .int .u8 0, .int .u8 0, .int .u8 0, .int .u8 0, .int .u8 0, .int .u8 0, .int .u8 0, .int .u8 0, .int .u8 0, .int .u8 0, .int .u8 0, .int .u8 0, .int .u8 0, .int .u8 0, .int .u8 0, .int .u8 0, .int .u8 0, .int .u8 0, .int .u8 0, .int .u8 0, .int .u8 0, .int .u8 0, .int .u8 0, .int .u8 0, .int .u8 0, .int .u8 0, .int .u8 0, .int .u8 0, .int .u8 0, .int .u8 0, .int .u8 0, .int .u8 0, .int .u8 0, .int .u8 0, .int .u8 0, .int .u8 0, .int .u8 0, .int .u8 0, .int .u8 0, .int .u8 0, .int .u8 0, .int .u8 0, .int .u8 0, .int .u8 0, .int .u8 0, .int .u8 0, .int .u8 0, .int .u8 0, .int .u8 0, .int .u8 0, .int .u8 0, .int .u8 0, .int .u8 0, .int .u8 0, .int .u8 0, .int .u8 0, .int .u8 0, .int .u8 0, .int .u8 0, .int .u8 0, .int .u8 0, .int .u8 0, .int .u8 0, .int .u8 0, .int .u8 0, .int .u8 0, .int .u8 0, .int .u8 0, .int .u8 0, .int .u8 0, .int .u8 0, .int .u8 0, .int .u8 0, .int .u8 0, .int .u8 0, .int .u8 0, .int .u8 0, .int .u8 0, .int .u8 0, .int .u8 0, .int .u8 0, .int .u8 0, .int .u8 0, .int .u8 0, .int .u8 0, .int .u8 0, .int .u8 0, .int .u8 0, .int .u8 0, .int .u8 0, .int .u8 0, .int .u8 0, .int .u8 0, .int .u8 0, .int .u8 0, .int .u8 0, .int .u8 0, .int .u8 0, .int .u8 0, .int .u8 0, .int .u8 0, .int .u8 0, .int .u8 0, .int .u8 0, .int .u8 0, .int .u8 0, .int .u8 0, .int .u8 0, .int .u8 0, .int .u8 0, .int .u8 0, .int .u8 0, .int .u8 0, .int .u8 0, .int .u8 0, .int .u8 0, .int .u8 0, .int .u8 0, .int .u8 0, .int .u8 0, .int .u8 0, .int .u8 0, .int .u8 0, .int .u8 0, .int .u8 0, .int .u8 0, .int .u8 0, .int .u8 0, .int .u8 0, .int .u8 0, .int .u8 0, .int .u8 0, .int .u8 0, .int .u8 0, .int .u8 0, .int .u8 0, .int .u8 0, .int .i64 0, .int .i64 0, .int .i64 0, .int .i64 0, .int .i64 0, .int .i64 0, .int .i64 0, .int .i64 0, .int .i64 0, .int .i64 0, .int .i64 0, .int .i64 0, .int .i64 0, .int .i64 0, .int .i64 0, .int .i64 0, .int .i64 0, .int .i64 0, .int .i64 0, .int .i64 0, .int .i64 0, .int .i64 0, .int .i64 0, .int .i64 0, .int .i64 0, .int .i64 0, .int .i64 0, .int .i64 0, .int .i64 0, .int .i64 0, .int .i64 0, .int .i64 0, .int .i64 0, .int .i64 0, .int .i64 0, .int .i64 0, .int .i64 0, .int .i64 0, .int .i64 0, .int .i64 0, .int .i64 0, .int .i64 0, .int .i64 0, .int .i64 0, .int .i64 0, .int .i64 0, .int .i64 0, .int .i64 0, .int .i64 0, .int .i64 0, .int .i64 0, .int .i64 0, .int .i64 0, .int .i64 0, .int .i64 0, .int .i64 0, .int .i64 0, .int .i64 0, .int .i64 0, .int .i64 0, .int .i64 0, .int .i64 0, .int .i64 0, .int .i64 0, .int .i64 0, .int .i64 0, .int .i64 0, .int .i64 0, .int .i64 0, .int .i64 0, .int .i64 0, .int .i64 0, .int .i64 0, .int .i64 0, .int .i64 0, .int .i64 0, .int .i64 0, .int .i64 0, .int .i64 0, .int .i64 0, .int .i64 0, .int .i64 0, .int .i64 0, .int .i64 0, .int .i64 0, .int .i64 0, .int .i64 0, .int .i64 0, .int .i64 0, .int .i64 0, .int .i64 0, .int .i64 0, .int .i64 0, .int .i64 0, .int .i64 0, .int .i64 0, .int .i64 0, .int .i64 0, .int .i64 0, .int .i64 0, .int .i64 0, .int .i64 0, .int .i64 0, .int .i64 0, .int .i64 0, .int .i64 0, .int .i64 0, .int .i64 0, .int .i64 0, .int .i64 0, .int .i64 0, .int .i64 0, .int .i64 0, .int .i64 0, .int .i64 0, .int .i64 0, .int .i64 0, .int .i64 0, .int .i64 0, .int .i64 0, .int .i64 0, .int .i64 0, .int .i64 0, .int .i64 0, .int .i64 0, .int .i64 0, .int .i64 0, .int .i64 0, .int .i64 0, .int .i64 0, .int .i64 0, .int .i64 0, .int .i64 0, .int .i64 0, .int .i64 0, .int .i64 0, .int .i64 0, .int .i64 0, .int .i64 0, .int .i64 0, .int .i64 0, .int .i64 0, .int .i64 0, .int .i64 0, .int .i64 0, .int .i64 0, .int .i64 0, .int .i64 0, .int .i64 0, .int .i64 0, .int .i64 0, .int .i64 0, .int .i64 0, .int .i64 0, .int .i64 0, .int .i64 0, .int .i64 0, .int .i64 0, .int .i64 0, .int .i64 0, .int .i64 0, .int .i64 0, .int .i64 0, .int .i64 0, .int .i64 0, .int .i64 0, .int .i64 0, .int .i64 0, .int .i64 0, .int .i64 0, .int .i64 0, .int .i64 0, .int .i64 0, .int .i64 0, .int .i64 0, .int .i64 0, .int .i64 0, .int .i64 0, .int .i64 0, .int .i64 0, .int .i64 0, .int .i64 0, .int .i64 0, .int .i64 0, .int .i64 0, .int .i64 0, .int .i64 0, .int .i64 0, .int .i64 0, .int .i64 0, .int .i64 0, .int .i64 0, .int .i64 0, .int .i64 0, .int .i64 0, .int .i64 0, .int .i64 0, .int .i64 0, .int .i64 0, .int .i64 0, .int .i64 0, .int .i64 0, .int .i64 0, .int .i64 0, .int .i64 0, .int .i64 0, .int .i64 0, .int .i64 0, .int .i64 0, .int .i64 0, .int .i64 0, .int .i64 0, .int .i64 0, .int .i64 0, .int .i64 0, .int .i64 0, .int .i64 0, .int .i64 0, .int .i64 0, .int .i64 0, .int .i64 0, .int .i64 0, .int .i64 0, .int .i64 0, .int .i64 0, .int .i64 0, .int .i64 0, .int .i64 0, .int .i64 0, .int .i64 0, .int .i64 0, .int .i64 0, .int .i64 0, .int .i64 0, .int .i64 0, .int .i64 0, .int .i64 0, .int .i64 0, .int .i64 0, .int .i64 0, .int .i64 0, .int .i64 0, .int .i64 0, .int .i64 0, .int .i64 0, .int .i64 0, .int .i64 0, .int .i64 0, .int .i64 0, .int .i64 0, .int .i64 0, .int .i64 0, .int .i64 0, .int .i64 0, .int .i64 0, .int .i64 0], []⟩
def pX : TI := ⟨.int .u64, 1, 8, [.int .u64 0], []⟩
def gG : TI := ⟨.slice 69, 1, 24, [.slice none 0 0], []⟩
def gH : TI := ⟨.func, 1, 8, [.nilFunc], []⟩
def gI : TI := ⟨.func, 1, 8, [.nilFunc], []⟩
def gJ : TI := ⟨.func, 1, 8, [.nilFunc], []⟩
def gK : TI := ⟨.func, 1, 8, [.nilFunc], []⟩
def gL : TI := ⟨.func, 1, 8, [.nilFunc], []⟩
def gM : TI := ⟨.func, 1, 8, [.nilFunc], []⟩
def gN : TI := ⟨.func, 1, 8, [.nilFunc], []⟩
def gO : TI := ⟨.other, 1, 0, [], []⟩
def gP : TI := ⟨.func, 1, 8, [.nilFunc], []⟩
def gQ : TI := ⟨.other, 1, 0, [], []⟩
def gR : TI := ⟨.func, 1, 8, [.nilFunc], []⟩
def gS : TI := ⟨.func, 1, 8, [.nilFunc], []⟩
def gT : TI := ⟨.func, 1, 8, [.nilFunc], []⟩
def gU : TI := ⟨.func, 1, 8, [.nilFunc], []⟩
def gV : TI := ⟨.func, 1, 8, [.nilFunc], []⟩
def gW : TI := ⟨.func, 1, 8, [.nilFunc], []⟩
def gX : TI := ⟨.func, 1, 8, [.nilFunc], []⟩
def gY : TI := ⟨.func, 1, 8, [.nilFunc], []⟩
def gZ : TI := ⟨.func, 1, 8, [.nilFunc], []⟩
def gc : TI := ⟨.func, 1, 8, [.nilFunc], []⟩
def gd : TI := ⟨.func, 1, 8, [.nilFunc], []⟩
def ge : TI := ⟨.int .i64, 1, 8, [.int .i64 0], []⟩
def gf : TI := ⟨.other, 1, 0, [], []⟩
def gh : TI := ⟨.func, 1, 8, [.nilFunc], []⟩
def gi : TI := ⟨.func, 1, 8, [.nilFunc], []⟩
def gj : TI := ⟨.func, 1, 8, [.nilFunc], []⟩
def gk : TI := ⟨.func, 1, 8, [.nilFunc], []⟩
def gp : TI := ⟨.other, 1, 0, [], []⟩
def gt : TI := ⟨.func, 1, 8, [.nilFunc], []⟩
def gu : TI := ⟨.func, 1, 8, [.nilFunc], []⟩
def gv : TI := ⟨.int .u32, 1, 4, [.int .u32 0], []⟩
def gx : TI := ⟨.func, 1, 8, [.nilFunc], []⟩
def gy : TI := ⟨.int .u64, 1, 8, [.int .u64 0], []⟩
def gz : TI := ⟨.func, 1, 8, [.nilFunc], []⟩
def hJ : TI := ⟨.func, 1, 8, [.nilFunc], []⟩
def hO : TI := ⟨.func, 1, 8, [.nilFunc], []⟩
def hP : TI := ⟨.func, 1, 8, [.nilFunc], []⟩
def hQ : TI := ⟨.func, 1, 8, [.nilFunc], []⟩
def hU : TI := ⟨.func, 1, 8, [.nilFunc], []⟩
def iA : TI := ⟨.int .u64, 1, 8, [.int .u64 0], []⟩
def iB : TI := ⟨.func, 1, 8, [.nilFunc], []⟩
def iC : TI := ⟨.func, 1, 8, [.nilFunc], []⟩
def iD : TI := ⟨.func, 1, 8, [.nilFunc], []⟩
def iE : TI := ⟨.ptr 3, 1, 8, [.pointer none], []⟩
def iF : TI := ⟨.func, 1, 8, [.nilFunc], []⟩
def iG : TI := ⟨.func, 1, 8, [.nilFunc], []⟩
def iH : TI := ⟨.func, 1, 8, [.nilFunc], []⟩
def iI : TI := ⟨.func, 1, 8, [.nilFunc], []⟩
def iJ : TI := ⟨.func, 1, 8, [.nilFunc], []⟩
def iK : TI := ⟨.func, 1, 8, [.nilFunc], []⟩
def iL : TI := ⟨.func, 1, 8, [.nilFunc], []⟩
def iM : TI := ⟨.ptr 140, 1, 8, [.pointer none], [("Next", 88)]⟩
def iN : TI := ⟨.other, 1, 0, [], []⟩
def iO : TI := ⟨.func, 1, 8, [.nilFunc], []⟩
def iP : TI := ⟨.func, 1, 8, [.nilFunc], []⟩
def iQ : TI := ⟨.func, 1, 8, [.nilFunc], []⟩
def iR : TI := ⟨.func, 1, 8, [.nilFunc], []⟩
def iS : TI := ⟨.arr 0 16, 0, 0, [], []⟩
def iT : TI := ⟨.int .u8, 1, 1, [.int .u8 0], []⟩
def iU : TI := ⟨.int .u8, 1, 1, [.int .u8 0], [("String", 118)]⟩
def iV : TI := ⟨.func, 1, 8, [.nilFunc], []⟩
def iW : TI := ⟨.ptr 5, 1, 8, [.pointer none], []⟩
def iX : TI := ⟨.int .i32, 1, 4, [.int .i32 0], []⟩
def iY : TI := ⟨.int .i32, 1, 4, [.int .i32 0], []⟩
def iZ : TI := ⟨.other, 1, 8, [.pointer none], []⟩
set_option maxRecDepth 100000 in
def ty : TTy := (.nd (some ty0) (.nd (some ty1) (.nd (some ty3) (.nd (some ty7) (.nd (some nq) (.nd (some oD) (.nd (some ic) (.nd (some gk) .mt .mt) .mt) (.nd (some pU) (.nd none .mt .mt) .mt)) (.nd (some oQ) (.nd (some pF) (.nd (some iD) .mt .mt) .mt) (.nd (some gR) .mt .mt))) (.nd (some Ru) (.nd (some oI) (.nd (some o0) (.nd (some hJ) .mt .mt) .mt) (.nd (some gJ) (.nd (some iX) .mt .mt) .mt)) (.nd (some oZ) (.nd (some pN) (.nd (some iL) .mt .mt) .mt) (.nd (some gZ) .mt .mt)))) (.nd (some nl) (.nd none (.nd (some oG) (.nd (some ou) (.nd (some gv) .mt .mt) .mt) (.nd (some pX) (.nd (some iT) .mt .mt) .mt)) (.nd (some oV) (.nd (some pJ) (.nd (some iH) .mt .mt) .mt) (.nd (some gV) .mt .mt))) (.nd (some Hd) (.nd (some oM) (.nd (some pC) (.nd (some hU) .mt .mt) .mt) (.nd (some gN) (.nd (some iZ) .mt .mt) .mt)) (.nd (some od) (.nd (some pR) (.nd (some iP) .mt .mt) .mt) (.nd (some gf) .mt .mt))))) (.nd (some ty5) (.nd (some ty9) (.nd (some nt) (.nd (some oF) (.nd (some ot) (.nd (some gt) .mt .mt) .mt) (.nd (some pW) (.nd none .mt .mt) .mt)) (.nd (some oS) (.nd (some pH) (.nd (some iF) .mt .mt) .mt) (.nd (some gT) .mt .mt))) (.nd (some PY) (.nd (some oK) (.nd (some Rw) (.nd (some hP) .mt .mt) .mt) (.nd (some gL) (.nd none .mt .mt) .mt)) (.nd (some oa) (.nd (some pP) (.nd (some iN) .mt .mt) .mt) (.nd (some gd) .mt .mt)))) (.nd none (.nd (some nv) (.nd (some oH) (.nd (some GM) (.nd (some gy) .mt .mt) .mt) (.nd (some gH) (.nd (some iV) .mt .mt) .mt)) (.nd (some oX) (.nd (some pL) (.nd (some iJ) .mt .mt) .mt) (.nd (some gX) .mt .mt))) (.nd (some oB) (.nd (some oO) (.nd (some pE) (.nd (some iB) .mt .mt) .mt) (.nd (some gP) .mt .mt)) (.nd (some oh) (.nd (some pT) (.nd (some iR) .mt .mt) .mt) (.nd (some gi) .mt .mt)))))) (.nd (some ty2) (.nd (some ty4) (.nd none (.nd (some nr) (.nd (some oE) (.nd (some oq) (.nd (some gp) .mt .mt) .mt) (.nd (some pV) (.nd (some iS) .mt .mt) .mt)) (.nd (some oR) (.nd (some pG) (.nd (some iE) .mt .mt) .mt) (.nd (some gS) .mt .mt))) (.nd (some PX) (.nd (some oJ) (.nd (some pA) (.nd (some hO) .mt .mt) .mt) (.nd (some gK) (.nd (some iY) .mt .mt) .mt)) (.nd (some FE) (.nd (some pO) (.nd (some iM) .mt .mt) .mt) (.nd (some gc) .mt .mt)))) (.nd (some np) (.nd (some nu) (.nd (some Ec) (.nd (some ov) (.nd (some gx) .mt .mt) .mt) (.nd (some gG) (.nd (some iU) .mt .mt) .mt)) (.nd (some oW) (.nd (some pK) (.nd (some iI) .mt .mt) .mt) (.nd (some gW) .mt .mt))) (.nd (some nz) (.nd (some oN) (.nd (some pD) (.nd (some iA) .mt .mt) .mt) (.nd (some gO) .mt .mt)) (.nd (some oe) (.nd (some pS) (.nd (some iQ) .mt .mt) .mt) (.nd (some gh) .mt .mt))))) (.nd (some ty6) (.nd (some nk) (.nd none (.nd (some GL) (.nd (some bX) (.nd (some gu) .mt .mt) .mt) (.nd (some ig) (.nd none .mt .mt) .mt)) (.nd (some oU) (.nd (some pI) (.nd (some iG) .mt .mt) .mt) (.nd (some gU) .mt .mt))) (.nd (some ny) (.nd (some oL) (.nd (some pB) (.nd (some hQ) .mt .mt) .mt) (.nd (some gM) (.nd none .mt .mt) .mt)) (.nd (some oc) (.nd (some pQ) (.nd (some iO) .mt .mt) .mt) (.nd (some ge) .mt .mt)))) (.nd none (.nd (some nw) (.nd (some I9) (.nd (some oz) (.nd (some gz) .mt .mt) .mt) (.nd (some gI) (.nd (some iW) .mt .mt) .mt)) (.nd (some oY) (.nd (some pM) (.nd (some iK) .mt .mt) .mt) (.nd (some gY) .mt .mt))) (.nd (some oC) (.nd (some oP) (.nd (some Rx) (.nd (some iC) .mt .mt) .mt) (.nd (some gQ) .mt .mt)) (.nd (some ol) (.nd (some ie) (.nd none .mt .mt) .mt) (.nd (some gj) .mt .mt)))))))
end
end Go.Proofs.Ythcfmklkbakkpaa

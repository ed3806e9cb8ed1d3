/-
  A table of types, held against the program by the kernel.
  THE TABLES OF THE CANONICAL MACHINE for this seat: what each type is, and the functions, each in a tree. Printed by program (tables.py).
-/
import Derived.Test.YthcfmklkbakkpaaZG
import Derived.Test.YthcfmklkbakkpaaProg
set_option linter.unusedSimpArgs false
set_option linter.unusedVariables false
namespace Go.Proofs.Ythcfmklkbakkpaa
noncomputable section
open Go
def veq : Value → Value → Bool
  | .bool a, .bool b => a == b
  | .int j a, .int k b => DQ j k && iEq a b
  | .string a, .string b => bEq a.data.toList b.data.toList
  | .pointer none, .pointer none => true
  | .slice none 0 0, .slice none 0 0 => true
  | .map none, .map none => true
  | .nilFunc, .nilFunc => true
  | .nilIface, .nilIface => true
  | _, _ => false
def leq : List Value → List Value → Bool
  | [], [] => true
  | a :: x, b :: y => veq a b && leq x y
  | _, _ => false
def zeq : Value → Value → Bool
  | .agg a, .agg b => leq a.toList b.toList
  | .agg _, _ => false
  | a, b => veq a b
theorem RU {a b : Value} (h : veq a b = true) : a = b := by
  unfold veq at h
  split at h
  · simpa using h
  · rw [Bool.and_eq_true, D8] at h
    have h1 := FZ h.1
    rw [h1, eq_of_beq h.2]
  · rw [Jn] at h
    rename_i a b
    have e1 := FM (a := a) (eq_of_beq h)
    have e2 := FM (a := b) rfl
    exact congrArg Value.string (e1.trans e2.symm)
  all_goals first | rfl | cases h
theorem QA : ∀ {a b : List Value}, leq a b = true → a = b
  | [], [], _ => rfl
  | x :: a, y :: b, h => by
    have h : (veq x y && leq a b) = true := h
    rw [Bool.and_eq_true] at h
    rw [RU h.1, QA h.2]
  | [], _ :: _, h => by cases h
  | _ :: _, [], h => by cases h
theorem ZH {a b : Value} (h : zeq a b = true) : a = b := by
  unfold zeq at h
  split at h
  · rename_i x y
    have := QA h
    congr 1
    exact Array.ext' this
  · cases h
  · exact RU h
def SY : List (Nat × Nat × Nat) → List (Nat × Nat × Nat) → Bool
  | [], [] => true
  | (a, b, c) :: x, (d, e, f) :: y => Nat.beq a d && (Nat.beq b e && (Nat.beq c f && SY x y))
  | _, _ => false
theorem NT : ∀ {x y : List (Nat × Nat × Nat)}, SY x y = true → x = y
  | [], [], _ => rfl
  | (a, b, c) :: x, (d, e, f) :: y, h => by
    have h : (Nat.beq a d && (Nat.beq b e && (Nat.beq c f && SY x y))) = true := h
    simp only [Bool.and_eq_true] at h
    rw [A1.1 h.1, A1.1 h.2.1, A1.1 h.2.2.1, NT h.2.2.2]
  | [], _ :: _, h => by cases h
  | _ :: _, [], h => by cases h
def P4 (P : Program) (k : TK) (d : TypeDesc) : Bool := match k, d with
  | .int a, .int b => DQ a b
  | .bool, .bool => true
  | .string, .string => true
  | .ptr a, .pointer b => Nat.beq a b
  | .slice a, .slice b => Nat.beq a b
  | .arr n a, .array m b => Nat.beq n m && Nat.beq a b
  | .map n a, .map m b => Nat.beq n m && Nat.beq a b
  | .struct fs, .struct fields => SY (fields.toList.map fun f => (f.offset, P.cellsOf f.type, f.type)) fs && fields.toList.all fun f => (P.info? f.type).isSome
  | .iface, .interface _ => true
  | .func, .func _ _ _ => true
  | .other, .struct _ => false
  | .other, .array _ _ => false
  | .other, .interface _ => false
  | .other, _ => true
  | _, _ => false
theorem P5 {P : Program} {k : TK} {d : TypeDesc} (h : P4 P k d = true) : KOk P k d := by
  unfold P4 at h
  split at h
  · rw [FZ h]; exact .int _
  · exact .bool
  · exact .string
  · rw [A1.1 h]; exact .ptr _
  · rw [A1.1 h]; exact .slice _
  · rw [Bool.and_eq_true] at h
    rw [A1.1 h.1, A1.1 h.2]; exact .arr _ _
  · rw [Bool.and_eq_true] at h
    rw [A1.1 h.1, A1.1 h.2]; exact .map _ _
  · rw [Bool.and_eq_true] at h
    exact .struct (NT h.1) h.2
  · exact .iface _
  · exact .func _ _ _
  · cases h
  · cases h
  · cases h
  · rename_i q1 q2 q3
    refine .other ?_
    split
    · rename_i f; exact absurd rfl (q1 f)
    · rename_i n e; exact absurd rfl (q2 n e)
    · rename_i m; exact absurd rfl (q3 m)
    · rfl
  · cases h
def RZ (ti : TI) (z : Option Value) : Bool :=
  (match ti.zero with
    | [] => Nat.blt 0 ti.size
    | _ :: _ => false) ||
  (match zeroV ti, z with
    | some a, some b => zeq a b && (ti.zero.all plainV && Nat.beq (Bk ti.zero) ti.size)
    | _, _ => false)
theorem Rc {ti : TI} {z : Option Value} (h : RZ ti z = true) : (ti.zero = [] ∧ 0 < ti.size) ∨ ∃ y, zeroV ti = some y ∧ z = some y ∧ ti.zero.all plainV = true ∧ ti.zero.length = ti.size := by
  unfold RZ at h
  rw [Bool.or_eq_true] at h
  rcases h with h | h
  · left
    split at h
    · rename_i hz; exact ⟨hz, Bu.1 h⟩
    · cases h
  · right
    split at h
    · rename_i a b ha
      simp only [Bool.and_eq_true] at h
      have h3 := A1.1 h.2.2
      rw [Bf] at h3
      exact ⟨a, ha, by rw [ZH h.1], h.2.1, h3⟩
    · cases h
def kW (b : Bool) : TypeDesc → Bool
  | .pointer _ => b
  | _ => not b
def Nq (P : Program) (t : Nat) (name : String) (f : Nat) : Bool := match P.info? t with
  | some i => match i.methods.find? (·.name == name) with
    | some m => match m.path.toList with
      | [] => match m.func with
        | some (g, b) => match P.underlying t with
          | some d => Nat.beq g f && kW b d
          | none => false
        | none => false
      | _ :: _ => false
    | none => false
  | none => false
theorem QG {P : Program} {t : Nat} {name : String} {f : Nat} (h : Nq P t name f = true) (v : Value) (w : World) : (method (P.types.size + Made.depth) t v name).run P w = .ok (f, v) w := by
  unfold Nq at h
  split at h
  · rename_i i hi
    split at h
    · rename_i m hm
      split at h
      · rename_i hp
        split at h
        · rename_i g b hg
          split at h
          · rename_i d hd
            rw [Bool.and_eq_true] at h
            have e1 := A1.1 h.1
            subst e1
            have h2 := h.2
            show (method ((P.types.size + 99) + 1) t v name).run P w = _
            unfold method
            simp only [typeInfo, Sem.run_bind, run_program, Result.andThen_ok, hi, Sem.run_pure, hm, hp, follow, hg, receiverAt, underlying, hd]
            cases d with
            | pointer e =>
              have hb : b = true := h2
              subst hb
              simp only [Place.get, Sem.run_bind, Sem.run_pure, Result.andThen_ok]
            | _ =>
              have hb : b = false := by
                have h2 : (!b) = true := h2
                cases b with
                | true => cases h2
                | false => rfl
              subst hb
              simp only [Place.get, Sem.run_bind, Sem.run_pure, Result.andThen_ok]
          · cases h
        · cases h
      · cases h
    · cases h
  · cases h
def Nr (P : Program) (t : Nat) : List (String × Nat) → Bool
  | [] => true
  | x :: l => Nq P t x.1 x.2 && Nr P t l
theorem K8 {P : Program} {t : Nat} : ∀ {l : List (String × Nat)}, Nr P t l = true → ∀ name f, findM name l = some f → ∀ v w, (method (P.types.size + Made.depth) t v name).run P w = .ok (f, v) w
  | [], _, name, f, h => by cases h
  | x :: l, hb, name, f, h => by
    have hb : (Nq P t x.1 x.2 && Nr P t l) = true := hb
    rw [Bool.and_eq_true] at hb
    unfold findM at h
    split at h
    · rename_i hn
      cases h
      rw [← eq_of_beq hn]
      exact fun v w => QG hb.1 v w
    · exact K8 hb.2 name f h
def tyB (P : Program) (t : Nat) (ti : TI) : Bool := match P.info? t with
  | some i => match P.underlying t with
    | some d => Nat.beq i.size ti.size && (Nat.beq i.bytes ti.bytes && (RZ ti i.zero && (P4 P ti.k d && (fineS P t && Nr P t ti.ms))))
    | none => false
  | none => false
theorem ZF {P : Program} (hd : 8 ≤ P.depth) {t : Nat} {ti : TI} (h : tyB P t ti = true) : TyOk P t ti := by
  unfold tyB at h
  split at h
  · rename_i i hi
    split at h
    · rename_i d hu
      simp only [Bool.and_eq_true] at h
      exact ⟨h.2.2.2.2.1, hd, ⟨i, hi, A1.1 h.1, A1.1 h.2.1, Rc h.2.2.1⟩, ⟨d, hu, P5 h.2.2.2.1⟩, K8 h.2.2.2.2.2⟩
    · cases h
  · cases h
def gh (P : Program) (t : Nat) : Option TI → Bool
  | some ti => tyB P t ti
  | none => true
def O8 (P : Program) : TTy → (Nat → Nat) → Bool
  | .mt, _ => true
  | .nd ti l r, ix => gh P (ix 0) ti && (O8 P l (fun k => ix (Nat.succ (Nat.mul 2 k))) && O8 P r (fun k => ix (Nat.succ (Nat.succ (Nat.mul 2 k)))))
theorem In {P : Program} (hd : 8 ≤ P.depth) : ∀ {t : TTy} {ix : Nat → Nat}, O8 P t ix = true → ∀ i ti, t.get i = some ti → TyOk P (ix i) ti
  | .mt, ix, _, i, b, h => by cases h
  | .nd c l r, ix, hb, i, b, h => by
    have hb : (gh P (ix 0) c && (O8 P l (fun k => ix (Nat.succ (Nat.mul 2 k))) && O8 P r (fun k => ix (Nat.succ (Nat.succ (Nat.mul 2 k)))))) = true := hb
    simp only [Bool.and_eq_true] at hb
    cases i with
    | zero =>
      have h : c = some b := h
      subst h
      exact ZF hd hb.1
    | succ k =>
      unfold TTy.get at h
      have e1 : Nat.mod k 2 = k % 2 := rfl
      have e2 : Nat.div k 2 = k / 2 := rfl
      rw [e1, e2] at h
      rcases Nat.mod_two_eq_zero_or_one k with hk | hk
      · rw [hk] at h
        have := In hd hb.2.1 (k / 2) b h
        have e : Nat.succ (Nat.mul 2 (k / 2)) = k + 1 := by show 2 * (k / 2) + 1 = k + 1; omega
        simp only [e] at this; exact this
      · rw [hk] at h
        have := In hd hb.2.2 (k / 2) b h
        have e : Nat.succ (Nat.succ (Nat.mul 2 (k / 2))) = k + 1 := by show 2 * (k / 2) + 1 + 1 = k + 1; omega
        simp only [e] at this; exact this
theorem Yt {P : Program} {ty : TTy} (hd : Nat.ble 8 P.depth = true) (h : O8 P ty (fun k => k) = true) : CN P ty := fun t ti ht => In (Az.1 hd) h t ti ht
end
end Go.Proofs.Ythcfmklkbakkpaa
namespace Go.Proofs.Ythcfmklkbakkpaa
noncomputable section
open Go
def ty0 : TI := ⟨.other, 1, 0, [], []⟩
def ty1 : TI := ⟨.func, 1, 8, [.nilFunc], []⟩
def ty2 : TI := ⟨.int .i64, 1, 8, [.int .i64 0], []⟩
def ty3 : TI := ⟨.int .i64, 1, 8, [.int .i64 0], []⟩
def ty4 : TI := ⟨.bool, 1, 1, [.bool false], []⟩
def ty5 : TI := ⟨.int .u8, 1, 1, [.int .u8 0], []⟩
def ty6 : TI := ⟨.int .u8, 1, 1, [.int .u8 0], []⟩
def ty7 : TI := ⟨.struct [(0, 1, 2), (1, 1, 3), (2, 1, 4), (3, 1, 6)], 4, 24, [.int .i64 0, .int .i64 0, .bool false, .int .u8 0], []⟩
def ty9 : TI := ⟨.string, 1, 16, [.string .empty], []⟩
def nr : TI := ⟨.string, 1, 16, [.string .empty], [("Error", 105), ("RuntimeError", 106)]⟩
def nt : TI := ⟨.string, 1, 16, [.string .empty], [("Error", 107), ("RuntimeError", 108)]⟩
def nu : TI := ⟨.int .u64, 1, 8, [.int .u64 0], []⟩
def nv : TI := ⟨.ptr 159, 1, 8, [.pointer none], [("Error", 111), ("RuntimeError", 112)]⟩
def nw : TI := ⟨.ptr 162, 1, 8, [.pointer none], [("Error", 113), ("RuntimeError", 114)]⟩
def ny : TI := ⟨.ptr 170, 1, 8, [.pointer none], [("Align", 115)]⟩
def nz : TI := ⟨.iface, 1, 16, [.nilIface], []⟩
def oB : TI := ⟨.int .i32, 1, 4, [.int .i32 0], []⟩
def oC : TI := ⟨.slice 40, 1, 24, [.slice none 0 0], []⟩
def RP : TI := ⟨.slice 56, 1, 24, [.slice none 0 0], []⟩
def PA : TI := ⟨.slice 3, 1, 24, [.slice none 0 0], []⟩
def PB : TI := ⟨.slice 36, 1, 24, [.slice none 0 0], []⟩
def oD : TI := ⟨.struct [(0, 1, 3), (1, 1, 3), (2, 1, 3), (3, 1, 3), (4, 1, 23), (5, 1, 24), (6, 1, 25)], 7, 104, [.int .i64 0, .int .i64 0, .int .i64 0, .int .i64 0, .slice none 0 0, .slice none 0 0, .slice none 0 0], []⟩
def Hc : TI := ⟨.struct [(0, 1, 3), (1, 1, 3), (2, 1, 3), (3, 1, 3), (4, 1, 23), (5, 1, 24), (6, 1, 25)], 7, 104, [.int .i64 0, .int .i64 0, .int .i64 0, .int .i64 0, .slice none 0 0, .slice none 0 0, .slice none 0 0], []⟩
def oE : TI := ⟨.int .i64, 1, 8, [.int .i64 0], []⟩
def oF : TI := ⟨.other, 1, 0, [], []⟩
def oG : TI := ⟨.func, 1, 8, [.nilFunc], []⟩
def oH : TI := ⟨.slice 4, 1, 24, [.slice none 0 0], []⟩
def oI : TI := ⟨.int .u8, 1, 1, [.int .u8 0], []⟩
def oJ : TI := ⟨.struct [(0, 1, 3), (1, 1, 32), (2, 1, 3)], 3, 24, [.int .i64 0, .int .u8 0, .int .i64 0], []⟩
def GK : TI := ⟨.struct [(0, 1, 3), (1, 1, 32), (2, 1, 3)], 3, 24, [.int .i64 0, .int .u8 0, .int .i64 0], []⟩
def oK : TI := ⟨.slice 73, 1, 24, [.slice none 0 0], []⟩
def Ec : TI := ⟨.slice 5, 1, 24, [.slice none 0 0], []⟩
def oL : TI := ⟨.struct [(0, 1, 3), (1, 1, 3), (2, 1, 32), (3, 1, 28), (4, 1, 35), (5, 1, 36), (6, 1, 3)], 7, 88, [.int .i64 0, .int .i64 0, .int .u8 0, .int .i64 0, .slice none 0 0, .slice none 0 0, .int .i64 0], []⟩
def Ix : TI := ⟨.struct [(0, 1, 3), (1, 1, 3), (2, 1, 32), (3, 1, 28), (4, 1, 35), (5, 1, 36), (6, 1, 3)], 7, 88, [.int .i64 0, .int .i64 0, .int .u8 0, .int .i64 0, .slice none 0 0, .slice none 0 0, .int .i64 0], []⟩
def oM : TI := ⟨.struct [(0, 1, 3), (1, 1, 4), (2, 1, 4), (3, 3, 34), (6, 7, 38)], 13, 128, [.int .i64 0, .bool false, .bool false, .int .i64 0, .int .u8 0, .int .i64 0, .int .i64 0, .int .i64 0, .int .u8 0, .int .i64 0, .slice none 0 0, .slice none 0 0, .int .i64 0], []⟩
def oN : TI := ⟨.struct [(0, 1, 3), (1, 1, 4), (2, 1, 4), (3, 3, 34), (6, 7, 38)], 13, 128, [.int .i64 0, .bool false, .bool false, .int .i64 0, .int .u8 0, .int .i64 0, .int .i64 0, .int .i64 0, .int .u8 0, .int .i64 0, .slice none 0 0, .slice none 0 0, .int .i64 0], []⟩
def oO : TI := ⟨.func, 1, 8, [.nilFunc], []⟩
def oP : TI := ⟨.slice 34, 1, 24, [.slice none 0 0], []⟩
def oQ : TI := ⟨.func, 1, 8, [.nilFunc], []⟩
def oR : TI := ⟨.func, 1, 8, [.nilFunc], []⟩
def oS : TI := ⟨.func, 1, 8, [.nilFunc], []⟩
def oT : TI := ⟨.func, 1, 8, [.nilFunc], []⟩
def oU : TI := ⟨.func, 1, 8, [.nilFunc], []⟩
def oV : TI := ⟨.func, 1, 8, [.nilFunc], []⟩
def oW : TI := ⟨.func, 1, 8, [.nilFunc], []⟩
def oY : TI := ⟨.func, 1, 8, [.nilFunc], []⟩
def oZ : TI := ⟨.func, 1, 8, [.nilFunc], []⟩
def oa : TI := ⟨.other, 1, 0, [], []⟩
def oc : TI := ⟨.func, 1, 8, [.nilFunc], []⟩
def od : TI := ⟨.func, 1, 8, [.nilFunc], []⟩
def oe : TI := ⟨.struct [(0, 1, 3), (1, 1, 4), (2, 1, 24)], 3, 40, [.int .i64 0, .bool false, .slice none 0 0], []⟩
def FA : TI := ⟨.struct [(0, 1, 3), (1, 1, 4), (2, 1, 24)], 3, 40, [.int .i64 0, .bool false, .slice none 0 0], []⟩
def oh : TI := ⟨.func, 1, 8, [.nilFunc], []⟩
def ol : TI := ⟨.func, 1, 8, [.nilFunc], []⟩
def oq : TI := ⟨.func, 1, 8, [.nilFunc], []⟩
def ot : TI := ⟨.func, 1, 8, [.nilFunc], []⟩
def ou : TI := ⟨.func, 1, 8, [.nilFunc], []⟩
def ov : TI := ⟨.func, 1, 8, [.nilFunc], []⟩
def gd : TI := ⟨.ptr 94, 1, 8, [.pointer none], [("All", 48), ("Decode", 58), ("Need", 47), ("Rebuild", 49), ("cooperage/code.made", 57), ("cooperage/code.row", 59), ("cooperage/code.rows", 66), ("cooperage/code.told", 63)]⟩
def oz : TI := ⟨.other, 1, 0, [], []⟩
def o0 : TI := ⟨.func, 1, 8, [.nilFunc], []⟩
def ZE : TI := ⟨.ptr 98, 1, 8, [.pointer none], [("Add", 43), ("Div", 62), ("Inv", 56), ("Lay", 67), ("Mul", 85), ("cooperage/field.is", 53)]⟩
def pA : TI := ⟨.func, 1, 8, [.nilFunc], []⟩
def pB : TI := ⟨.func, 1, 8, [.nilFunc], []⟩
def GL : TI := ⟨.arr 3 3, 3, 24, [.int .i64 0, .int .i64 0, .int .i64 0], []⟩
def pC : TI := ⟨.func, 1, 8, [.nilFunc], []⟩
def pD : TI := ⟨.int .u8, 1, 1, [.int .u8 0], []⟩
def pE : TI := ⟨.struct [(0, 1, 3), (1, 1, 3), (2, 1, 3), (3, 1, 71)], 4, 32, [.int .i64 0, .int .i64 0, .int .i64 0, .int .u8 0], []⟩
def RR : TI := ⟨.struct [(0, 1, 3), (1, 1, 3), (2, 1, 3), (3, 1, 71)], 4, 32, [.int .i64 0, .int .i64 0, .int .i64 0, .int .u8 0], []⟩
def pF : TI := ⟨.func, 1, 8, [.nilFunc], []⟩
def pG : TI := ⟨.other, 1, 0, [], []⟩
def pH : TI := ⟨.func, 1, 8, [.nilFunc], []⟩
def pI : TI := ⟨.func, 1, 8, [.nilFunc], []⟩
def RT : TI := ⟨.arr 5 32, 5, 5, BI [.int .u8 0] 5, []⟩
def pJ : TI := ⟨.func, 1, 8, [.nilFunc], []⟩
def pK : TI := ⟨.func, 1, 8, [.nilFunc], []⟩
def pL : TI := ⟨.func, 1, 8, [.nilFunc], []⟩
def pM : TI := ⟨.func, 1, 8, [.nilFunc], []⟩
def pN : TI := ⟨.ptr 56, 1, 8, [.pointer none], []⟩
def pO : TI := ⟨.func, 1, 8, [.nilFunc], []⟩
def pP : TI := ⟨.func, 1, 8, [.nilFunc], []⟩
def pQ : TI := ⟨.func, 1, 8, [.nilFunc], []⟩
def pR : TI := ⟨.func, 1, 8, [.nilFunc], []⟩
def pS : TI := ⟨.func, 1, 8, [.nilFunc], []⟩
def pT : TI := ⟨.slice 36, 1, 24, [.slice none 0 0], []⟩
def pU : TI := ⟨.other, 1, 0, [], []⟩
def pV : TI := ⟨.func, 1, 8, [.nilFunc], []⟩
def pW : TI := ⟨.func, 1, 8, [.nilFunc], []⟩
def pX : TI := ⟨.struct [(0, 1, 66), (1, 1, 3), (2, 1, 89)], 3, 40, [.pointer none, .int .i64 0, .slice none 0 0], []⟩
def ge : TI := ⟨.struct [(0, 1, 66), (1, 1, 3), (2, 1, 89)], 3, 40, [.pointer none, .int .i64 0, .slice none 0 0], []⟩
def pY : TI := ⟨.arr 510 5, 510, 510, BI [.int .u8 0] 510, []⟩
def pZ : TI := ⟨.arr 256 3, 256, 2048, BI [.int .i64 0] 256, []⟩
def pd : TI := ⟨.struct [(0, 1, 4), (1, 510, 95), (511, 256, 96)], 767, 2560, [.bool false, .int .u8 0, .int .u8 0, .int .u8 0, .int .u8 0, .int .u8 0, .int .u8 0, .int .u8 0, .int .u8 0, .int .u8 0, .int .u8 0, .int .u8 0, .int .u8 0, .int .u8 0, .int .u8 0, .int .u8 0, .int .u8 0, .int .u8 0, .int .u8 0, .int .u8 0, .int .u8 0, .int .u8 0, .int .u8 0, .int .u8 0, .int .u8 0, .int .u8 0, .int .u8 0, .int .u8 0, .int .u8 0, .int .u8 0, .int .u8 0, .int .u8 0, .int .u8 0, .int .u8 0, .int .u8 0, .int .u8 0, .int .u8 0, .int .u8 0, .int .u8 0, .int .u8 0, .int .u8 0, .int .u8 0, .int .u8 0, .int .u8 0, .int .u8 0, .int .u8 0, .int .u8 0, .int .u8 0, .int .u8 0, .int .u8 0, .int .u8 0, .int .u8 0, .int .u8 0, .int .u8 0, .int .u8 0, .int .u8 0, .int .u8 0, .int .u8 0, .int .u8 0, .int .u8 0, .int .u8 0, .int .u8 0, .int .u8 0, .int .u8 0, .int .u8 0, .int .u8 0, .int .u8 0, .int .u8 0, .int .u8 0, .int .u8 0, .int .u8 0, .int .u8 0, .int .u8 0, .int .u8 0, .int .u8 0, .int .u8 0, .int .u8 0, .int .u8 0, .int .u8 0, .int .u8 0, .int .u8 0, .int .u8 0, .int .u8 0, .int .u8 0, .int .u8 0, .int .u8 0, .int .u8 0, .int .u8 0, .int .u8 0, .int .u8 0, .int .u8 0, .int .u8 0, .int .u8 0, .int .u8 0, .int .u8 0, .int .u8 0, .int .u8 0, .int .u8 0, .int .u8 0, .int .u8 0, .int .u8 0, .int .u8 0, .int .u8 0, .int .u8 0, .int .u8 0, .int .u8 0, .int .u8 0, .int .u8 0, .int .u8 0, .int .u8 0, .int .u8 0, .int .u8 0, .int .u8 0, .int .u8 0, .int .u8 0, .int .u8 0, .int .u8 0, .int .u8 0, .int .u8 0, .int .u8 0, .int .u8 0, .int .u8 0, .int .u8 0, .int .u8 0, .int .u8 0, .int .u8 0, .int .u8 0, .int .u8 0, .int .u8 0, .int .u8 0, .int .u8 0, .int .u8 0, .int .u8 0, .int .u8 0, .int .u8 0, .int .u8 0, .int .u8 0, .int .u8 0, .int .u8 0, .int .u8 0, .int .u8 0, .int .u8 0, .int .u8 0, .int .u8 0, .int .u8 0, .int .u8 0, .int .u8 0, .int .u8 0, .int .u8 0, .int .u8 0, .int .u8 0, .int .u8 0, .int .u8 0, .int .u8 0, .int .u8 0, .int .u8 0, .int .u8 0, .int .u8 0, .int .u8 0, .int .u8 0, .int .u8 0, .int .u8 0, .int .u8 0, .int .u8 0, .int .u8 0, .int .u8 0, .int .u8 0, .int .u8 0, .int .u8 0, .int .u8 0, .int .u8 0, .int .u8 0, .int .u8 0, .int .u8 0, .int .u8 0, .int .u8 0, .int .u8 0, .int .u8 0, .int .u8 0, .int .u8 0, .int .u8 0, .int .u8 0, .int .u8 0, .int .u8 0, .int .u8 0, .int .u8 0, .int .u8 0, .int .u8 0, .int .u8 0, .int .u8 0, .int .u8 0, .int .u8 0, .int .u8 0, .int .u8 0, .int .u8 0, .int .u8 0, .int .u8 0, .int .u8 0, .int .u8 0, .int .u8 0, .int .u8 0, .int .u8 0, .int .u8 0, .int .u8 0, .int .u8 0, .int .u8 0, .int .u8 0, .int .u8 0, .int .u8 0, .int .u8 0, .int .u8 0, .int .u8 0, .int .u8 0, .int .u8 0, .int .u8 0, .int .u8 0, .int .u8 0, .int .u8 0, .int .u8 0, .int .u8 0, .int .u8 0, .int .u8 0, .int .u8 0, .int .u8 0, .int .u8 0, .int .u8 0, .int .u8 0, .int .u8 0, .int .u8 0, .int .u8 0, .int .u8 0, .int .u8 0, .int .u8 0, .int .u8 0, .int .u8 0, .int .u8 0, .int .u8 0, .int .u8 0, .int .u8 0, .int .u8 0, .int .u8 0, .int .u8 0, .int .u8 0, .int .u8 0, .int .u8 0, .int .u8 0, .int .u8 0, .int .u8 0, .int .u8 0, .int .u8 0, .int .u8 0, .int .u8 0, .int .u8 0, .int .u8 0, .int .u8 0, .int .u8 0, .int .u8 0, .int .u8 0, .int .u8 0, .int .u8 0, .int .u8 0, .int .u8 0, .int .u8 0, .int .u8 0, .int .u8 0, .int .u8 0, .int .u8 0, .int .u8 0, .int .u8 0, .int .u8 0, .int .u8 0, .int .u8 0, .int .u8 0, .int .u8 0, .int .u8 0, .int .u8 0, .int .u8 0, .int .u8 0, .int .u8 0, .int .u8 0, .int .u8 0, .int .u8 0, .int .u8 0, .int .u8 0, .int .u8 0, .int .u8 0, .int .u8 0, .int .u8 0, .int .u8 0, .int .u8 0, .int .u8 0, .int .u8 0, .int .u8 0, .int .u8 0, .int .u8 0, .int .u8 0, .int .u8 0, .int .u8 0, .int .u8 0, .int .u8 0, .int .u8 0, .int .u8 0, .int .u8 0, .int .u8 0, .int .u8 0, .int .u8 0, .int .u8 0, .int .u8 0, .int .u8 0, .int .u8 0, .int .u8 0, .int .u8 0, .int .u8 0, .int .u8 0, .int .u8 0, .int .u8 0, .int .u8 0, .int .u8 0, .int .u8 0, .int .u8 0, .int .u8 0, .int .u8 0, .int .u8 0, .int .u8 0, .int .u8 0, .int .u8 0, .int .u8 0, .int .u8 0, .int .u8 0, .int .u8 0, .int .u8 0, .int .u8 0, .int .u8 0, .int .u8 0, .int .u8 0, .int .u8 0, .int .u8 0, .int .u8 0, .int .u8 0, .int .u8 0, .int .u8 0, .int .u8 0, .int .u8 0, .int .u8 0, .int .u8 0, .int .u8 0, .int .u8 0, .int .u8 0, .int .u8 0, .int .u8 0, .int .u8 0, .int .u8 0, .int .u8 0, .int .u8 0, .int .u8 0, .int .u8 0, .int .u8 0, .int .u8 0, .int .u8 0, .int .u8 0, .int .u8 0, .int .u8 0, .int .u8 0, .int .u8 0, .int .u8 0, .int .u8 0, .int .u8 0, .int .u8 0, .int .u8 0, .int .u8 0, .int .u8 0, .int .u8 0, .int .u8 0, .int .u8 0, .int .u8 0, .int .u8 0, .int .u8 0, .int .u8 0, .int .u8 0, .int .u8 0, .int .u8 0, .int .u8 0, .int .u8 0, .int .u8 0, .int .u8 0, .int .u8 0, .int .u8 0, .int .u8 0, .int .u8 0, .int .u8 0, .int .u8 0, .int .u8 0, .int .u8 0, .int .u8 0, .int .u8 0, .int .u8 0, .int .u8 0, .int .u8 0, .int .u8 0, .int .u8 0, .int .u8 0, .int .u8 0, .int .u8 0, .int .u8 0, .int .u8 0, .int .u8 0, .int .u8 0, .int .u8 0, .int .u8 0, .int .u8 0, .int .u8 0, .int .u8 0, .int .u8 0, .int .u8 0, .int .u8 0, .int .u8 0, .int .u8 0, .int .u8 0, .int .u8 0, .int .u8 0, .int .u8 0, .int .u8 0, .int .u8 0, .int .u8 0, .int .u8 0, .int .u8 0, .int .u8 0, .int .u8 0, .int .u8 0, .int .u8 0, .int .u8 0, .int .u8 0, .int .u8 0, .int .u8 0, .int .u8 0, .int .u8 0, .int .u8 0, .int .u8 0, .int .u8 0, .int .u8 0, .int .u8 0, .int .u8 0, .int .u8 0, .int .u8 0, .int .u8 0, .int .u8 0, .int .u8 0, .int .u8 0, .int .u8 0, .int .u8 0, .int .u8 0, .int .u8 0, .int .u8 0, .int .u8 0, .int .u8 0, .int .u8 0, .int .u8 0, .int .u8 0, .int .u8 0, .int .u8 0, .int .u8 0, .int .u8 0, .int .u8 0, .int .u8 0, .int .u8 0, .int .u8 0, .int .u8 0, .int .u8 0, .int .u8 0, .int .u8 0, .int .u8 0, .int .u8 0, .int .u8 0, .int .u8 0, .int .u8 0, .int .u8 0, .int .u8 0, .int .u8 0, .int .u8 0, .int .u8 0, .int .u8 0, .int .u8 0, .int .u8 0, .int .u8 0, .int .u8 0, .int .u8 0, .int .u8 0, .int .u8 0, .int .u8 0, .int .u8 0, .int .u8 0, .int .u8 0, .int .u8 0, .int .u8 0, .int .u8 0, .int .u8 0, .int .u8 0, .int .u8 0, .int .u8 0, .int .u8 0, .int .u8 0, .int .u8 0, .int .u8 0, .int .u8 0, .int .u8 0, .int .u8 0, .int .u8 0, .int .u8 0, .int .u8 0, .int .u8 0, .int .u8 0, .int .i64 0, .int .i64 0, .int .i64 0, .int .i64 0, .int .i64 0, .int .i64 0, .int .i64 0, .int .i64 0, .int .i64 0, .int .i64 0, .int .i64 0, .int .i64 0, .int .i64 0, .int .i64 0, .int .i64 0, .int .i64 0, .int .i64 0, .int .i64 0, .int .i64 0, .int .i64 0, .int .i64 0, .int .i64 0, .int .i64 0, .int .i64 0, .int .i64 0, .int .i64 0, .int .i64 0, .int .i64 0, .int .i64 0, .int .i64 0, .int .i64 0, .int .i64 0, .int .i64 0, .int .i64 0, .int .i64 0, .int .i64 0, .int .i64 0, .int .i64 0, .int .i64 0, .int .i64 0, .int .i64 0, .int .i64 0, .int .i64 0, .int .i64 0, .int .i64 0, .int .i64 0, .int .i64 0, .int .i64 0, .int .i64 0, .int .i64 0, .int .i64 0, .int .i64 0, .int .i64 0, .int .i64 0, .int .i64 0, .int .i64 0, .int .i64 0, .int .i64 0, .int .i64 0, .int .i64 0, .int .i64 0, .int .i64 0, .int .i64 0, .int .i64 0, .int .i64 0, .int .i64 0, .int .i64 0, .int .i64 0, .int .i64 0, .int .i64 0, .int .i64 0, .int .i64 0, .int .i64 0, .int .i64 0, .int .i64 0, .int .i64 0, .int .i64 0, .int .i64 0, .int .i64 0, .int .i64 0, .int .i64 0, .int .i64 0, .int .i64 0, .int .i64 0, .int .i64 0, .int .i64 0, .int .i64 0, .int .i64 0, .int .i64 0, .int .i64 0, .int .i64 0, .int .i64 0, .int .i64 0, .int .i64 0, .int .i64 0, .int .i64 0, .int .i64 0, .int .i64 0, .int .i64 0, .int .i64 0, .int .i64 0, .int .i64 0, .int .i64 0, .int .i64 0, .int .i64 0, .int .i64 0, .int .i64 0, .int .i64 0, .int .i64 0, .int .i64 0, .int .i64 0, .int .i64 0, .int .i64 0, .int .i64 0, .int .i64 0, .int .i64 0, .int .i64 0, .int .i64 0, .int .i64 0, .int .i64 0, .int .i64 0, .int .i64 0, .int .i64 0, .int .i64 0, .int .i64 0, .int .i64 0, .int .i64 0, .int .i64 0, .int .i64 0, .int .i64 0, .int .i64 0, .int .i64 0, .int .i64 0, .int .i64 0, .int .i64 0, .int .i64 0, .int .i64 0, .int .i64 0, .int .i64 0, .int .i64 0, .int .i64 0, .int .i64 0, .int .i64 0, .int .i64 0, .int .i64 0, .int .i64 0, .int .i64 0, .int .i64 0, .int .i64 0, .int .i64 0, .int .i64 0, .int .i64 0, .int .i64 0, .int .i64 0, .int .i64 0, .int .i64 0, .int .i64 0, .int .i64 0, .int .i64 0, .int .i64 0, .int .i64 0, .int .i64 0, .int .i64 0, .int .i64 0, .int .i64 0, .int .i64 0, .int .i64 0, .int .i64 0, .int .i64 0, .int .i64 0, .int .i64 0, .int .i64 0, .int .i64 0, .int .i64 0, .int .i64 0, .int .i64 0, .int .i64 0, .int .i64 0, .int .i64 0, .int .i64 0, .int .i64 0, .int .i64 0, .int .i64 0, .int .i64 0, .int .i64 0, .int .i64 0, .int .i64 0, .int .i64 0, .int .i64 0, .int .i64 0, .int .i64 0, .int .i64 0, .int .i64 0, .int .i64 0, .int .i64 0, .int .i64 0, .int .i64 0, .int .i64 0, .int .i64 0, .int .i64 0, .int .i64 0, .int .i64 0, .int .i64 0, .int .i64 0, .int .i64 0, .int .i64 0, .int .i64 0, .int .i64 0, .int .i64 0, .int .i64 0, .int .i64 0, .int .i64 0, .int .i64 0, .int .i64 0, .int .i64 0, .int .i64 0, .int .i64 0, .int .i64 0, .int .i64 0, .int .i64 0, .int .i64 0, .int .i64 0, .int .i64 0, .int .i64 0, .int .i64 0, .int .i64 0, .int .i64 0, .int .i64 0, .int .i64 0, .int .i64 0, .int .i64 0, .int .i64 0, .int .i64 0, .int .i64 0, .int .i64 0, .int .i64 0, .int .i64 0, .int .i64 0, .int .i64 0, .int .i64 0, .int .i64 0, .int .i64 0, .int .i64 0, .int .i64 0, .int .i64 0, .int .i64 0, .int .i64 0, .int .i64 0, .int .i64 0, .int .i64 0, .int .i64 0, .int .i64 0, .int .i64 0, .int .i64 0, .int .i64 0, .int .i64 0], []⟩
def gf : TI := ⟨.struct [(0, 1, 4), (1, 510, 95), (511, 256, 96)], 767, 2560, [.bool false, .int .u8 0, .int .u8 0, .int .u8 0, .int .u8 0, .int .u8 0, .int .u8 0, .int .u8 0, .int .u8 0, .int .u8 0, .int .u8 0, .int .u8 0, .int .u8 0, .int .u8 0, .int .u8 0, .int .u8 0, .int .u8 0, .int .u8 0, .int .u8 0, .int .u8 0, .int .u8 0, .int .u8 0, .int .u8 0, .int .u8 0, .int .u8 0, .int .u8 0, .int .u8 0, .int .u8 0, .int .u8 0, .int .u8 0, .int .u8 0, .int .u8 0, .int .u8 0, .int .u8 0, .int .u8 0, .int .u8 0, .int .u8 0, .int .u8 0, .int .u8 0, .int .u8 0, .int .u8 0, .int .u8 0, .int .u8 0, .int .u8 0, .int .u8 0, .int .u8 0, .int .u8 0, .int .u8 0, .int .u8 0, .int .u8 0, .int .u8 0, .int .u8 0, .int .u8 0, .int .u8 0, .int .u8 0, .int .u8 0, .int .u8 0, .int .u8 0, .int .u8 0, .int .u8 0, .int .u8 0, .int .u8 0, .int .u8 0, .int .u8 0, .int .u8 0, .int .u8 0, .int .u8 0, .int .u8 0, .int .u8 0, .int .u8 0, .int .u8 0, .int .u8 0, .int .u8 0, .int .u8 0, .int .u8 0, .int .u8 0, .int .u8 0, .int .u8 0, .int .u8 0, .int .u8 0, .int .u8 0, .int .u8 0, .int .u8 0, .int .u8 0, .int .u8 0, .int .u8 0, .int .u8 0, .int .u8 0, .int .u8 0, .int .u8 0, .int .u8 0, .int .u8 0, .int .u8 0, .int .u8 0, .int .u8 0, .int .u8 0, .int .u8 0, .int .u8 0, .int .u8 0, .int .u8 0, .int .u8 0, .int .u8 0, .int .u8 0, .int .u8 0, .int .u8 0, .int .u8 0, .int .u8 0, .int .u8 0, .int .u8 0, .int .u8 0, .int .u8 0, .int .u8 0, .int .u8 0, .int .u8 0, .int .u8 0, .int .u8 0, .int .u8 0, .int .u8 0, .int .u8 0, .int .u8 0, .int .u8 0, .int .u8 0, .int .u8 0, .int .u8 0, .int .u8 0, .int .u8 0, .int .u8 0, .int .u8 0, .int .u8 0, .int .u8 0, .int .u8 0, .int .u8 0, .int .u8 0, .int .u8 0, .int .u8 0, .int .u8 0, .int .u8 0, .int .u8 0, .int .u8 0, .int .u8 0, .int .u8 0, .int .u8 0, .int .u8 0, .int .u8 0, .int .u8 0, .int .u8 0, .int .u8 0, .int .u8 0, .int .u8 0, .int .u8 0, .int .u8 0, .int .u8 0, .int .u8 0, .int .u8 0, .int .u8 0, .int .u8 0, .int .u8 0, .int .u8 0, .int .u8 0, .int .u8 0, .int .u8 0, .int .u8 0, .int .u8 0, .int .u8 0, .int .u8 0, .int .u8 0, .int .u8 0, .int .u8 0, .int .u8 0, .int .u8 0, .int .u8 0, .int .u8 0, .int .u8 0, .int .u8 0, .int .u8 0, .int .u8 0, .int .u8 0, .int .u8 0, .int .u8 0, .int .u8 0, .int .u8 0, .int .u8 0, .int .u8 0, .int .u8 0, .int .u8 0, .int .u8 0, .int .u8 0, .int .u8 0, .int .u8 0, .int .u8 0, .int .u8 0, .int .u8 0, .int .u8 0, .int .u8 0, .int .u8 0, .int .u8 0, .int .u8 0, .int .u8 0, .int .u8 0, .int .u8 0, .int .u8 0, .int .u8 0, .int .u8 0, .int .u8 0, .int .u8 0, .int .u8 0, .int .u8 0, .int .u8 0, .int .u8 0, .int .u8 0, .int .u8 0, .int .u8 0, .int .u8 0, .int .u8 0, .int .u8 0, .int .u8 0, .int .u8 0, .int .u8 0, .int .u8 0, .int .u8 0, .int .u8 0, .int .u8 0, .int .u8 0, .int .u8 0, .int .u8 0, .int .u8 0, .int .u8 0, .int .u8 0, .int .u8 0, .int .u8 0, .int .u8 0, .int .u8 0, .int .u8 0, .int .u8 0, .int .u8 0, .int .u8 0, .int .u8 0, .int .u8 0, .int .u8 0, .int .u8 0, .int .u8 0, .int .u8 0, .int .u8 0, .int .u8 0, .int .u8 0, .int .u8 0, .int .u8 0, .int .u8 0, .int .u8 0, .int .u8 0, .int .u8 0, .int .u8 0, .int .u8 0, .int .u8 0, .int .u8 0, .int .u8 0, .int .u8 0, .int .u8 0, .int .u8 0, .int .u8 0, .int .u8 0, .int .u8 0, .int .u8 0, .int .u8 0, .int .u8 0, .int .u8 0, .int .u8 0, .int .u8 0, .int .u8 0, .int .u8 0, .int .u8 0, .int .u8 0, .int .u8 0, .int .u8 0, .int .u8 0, .int .u8 0, .int .u8 0, .int .u8 0, .int .u8 0, .int .u8 0, .int .u8 0, .int .u8 0, .int .u8 0, .int .u8 0, .int .u8 0, .int .u8 0, .int .u8 0, .int .u8 0, .int .u8 0, .int .u8 0, .int .u8 0, .int .u8 0, .int .u8 0, .int .u8 0, .int .u8 0, .int .u8 0, .int .u8 0, .int .u8 0, .int .u8 0, .int .u8 0, .int .u8 0, .int .u8 0, .int .u8 0, .int .u8 0, .int .u8 0, .int .u8 0, .int .u8 0, .int .u8 0, .int .u8 0, .int .u8 0, .int .u8 0, .int .u8 0, .int .u8 0, .int .u8 0, .int .u8 0, .int .u8 0, .int .u8 0, .int .u8 0, .int .u8 0, .int .u8 0, .int .u8 0, .int .u8 0, .int .u8 0, .int .u8 0, .int .u8 0, .int .u8 0, .int .u8 0, .int .u8 0, .int .u8 0, .int .u8 0, .int .u8 0, .int .u8 0, .int .u8 0, .int .u8 0, .int .u8 0, .int .u8 0, .int .u8 0, .int .u8 0, .int .u8 0, .int .u8 0, .int .u8 0, .int .u8 0, .int .u8 0, .int .u8 0, .int .u8 0, .int .u8 0, .int .u8 0, .int .u8 0, .int .u8 0, .int .u8 0, .int .u8 0, .int .u8 0, .int .u8 0, .int .u8 0, .int .u8 0, .int .u8 0, .int .u8 0, .int .u8 0, .int .u8 0, .int .u8 0, .int .u8 0, .int .u8 0, .int .u8 0, .int .u8 0, .int .u8 0, .int .u8 0, .int .u8 0, .int .u8 0, .int .u8 0, .int .u8 0, .int .u8 0, .int .u8 0, .int .u8 0, .int .u8 0, .int .u8 0, .int .u8 0, .int .u8 0, .int .u8 0, .int .u8 0, .int .u8 0, .int .u8 0, .int .u8 0, .int .u8 0, .int .u8 0, .int .u8 0, .int .u8 0, .int .u8 0, .int .u8 0, .int .u8 0, .int .u8 0, .int .u8 0, .int .u8 0, .int .u8 0, .int .u8 0, .int .u8 0, .int .u8 0, .int .u8 0, .int .u8 0, .int .u8 0, .int .u8 0, .int .u8 0, .int .u8 0, .int .u8 0, .int .u8 0, .int .u8 0, .int .u8 0, .int .u8 0, .int .u8 0, .int .u8 0, .int .u8 0, .int .u8 0, .int .u8 0, .int .u8 0, .int .u8 0, .int .u8 0, .int .u8 0, .int .u8 0, .int .u8 0, .int .u8 0, .int .u8 0, .int .u8 0, .int .u8 0, .int .u8 0, .int .u8 0, .int .u8 0, .int .u8 0, .int .u8 0, .int .u8 0, .int .u8 0, .int .u8 0, .int .u8 0, .int .u8 0, .int .u8 0, .int .u8 0, .int .u8 0, .int .u8 0, .int .u8 0, .int .u8 0, .int .u8 0, .int .u8 0, .int .u8 0, .int .u8 0, .int .u8 0, .int .u8 0, .int .u8 0, .int .u8 0, .int .u8 0, .int .u8 0, .int .u8 0, .int .u8 0, .int .u8 0, .int .u8 0, .int .u8 0, .int .u8 0, .int .u8 0, .int .u8 0, .int .u8 0, .int .u8 0, .int .u8 0, .int .u8 0, .int .u8 0, .int .u8 0, .int .u8 0, .int .u8 0, .int .u8 0, .int .u8 0, .int .u8 0, .int .u8 0, .int .u8 0, .int .u8 0, .int .u8 0, .int .u8 0, .int .u8 0, .int .u8 0, .int .u8 0, .int .u8 0, .int .u8 0, .int .u8 0, .int .u8 0, .int .u8 0, .int .u8 0, .int .u8 0, .int .u8 0, .int .u8 0, .int .u8 0, .int .u8 0, .int .u8 0, .int .u8 0, .int .u8 0, .int .u8 0, .int .u8 0, .int .u8 0, .int .u8 0, .int .u8 0, .int .u8 0, .int .u8 0, .int .u8 0, .int .u8 0, .int .u8 0, .int .u8 0, .int .u8 0, .int .u8 0, .int .u8 0, .int .u8 0, .int .u8 0, .int .u8 0, .int .u8 0, .int .u8 0, .int .u8 0, .int .u8 0, .int .u8 0, .int .i64 0, .int .i64 0, .int .i64 0, .int .i64 0, .int .i64 0, .int .i64 0, .int .i64 0, .int .i64 0, .int .i64 0, .int .i64 0, .int .i64 0, .int .i64 0, .int .i64 0, .int .i64 0, .int .i64 0, .int .i64 0, .int .i64 0, .int .i64 0, .int .i64 0, .int .i64 0, .int .i64 0, .int .i64 0, .int .i64 0, .int .i64 0, .int .i64 0, .int .i64 0, .int .i64 0, .int .i64 0, .int .i64 0, .int .i64 0, .int .i64 0, .int .i64 0, .int .i64 0, .int .i64 0, .int .i64 0, .int .i64 0, .int .i64 0, .int .i64 0, .int .i64 0, .int .i64 0, .int .i64 0, .int .i64 0, .int .i64 0, .int .i64 0, .int .i64 0, .int .i64 0, .int .i64 0, .int .i64 0, .int .i64 0, .int .i64 0, .int .i64 0, .int .i64 0, .int .i64 0, .int .i64 0, .int .i64 0, .int .i64 0, .int .i64 0, .int .i64 0, .int .i64 0, .int .i64 0, .int .i64 0, .int .i64 0, .int .i64 0, .int .i64 0, .int .i64 0, .int .i64 0, .int .i64 0, .int .i64 0, .int .i64 0, .int .i64 0, .int .i64 0, .int .i64 0, .int .i64 0, .int .i64 0, .int .i64 0, .int .i64 0, .int .i64 0, .int .i64 0, .int .i64 0, .int .i64 0, .int .i64 0, .int .i64 0, .int .i64 0, .int .i64 0, .int .i64 0, .int .i64 0, .int .i64 0, .int .i64 0, .int .i64 0, .int .i64 0, .int .i64 0, .int .i64 0, .int .i64 0, .int .i64 0, .int .i64 0, .int .i64 0, .int .i64 0, .int .i64 0, .int .i64 0, .int .i64 0, .int .i64 0, .int .i64 0, .int .i64 0, .int .i64 0, .int .i64 0, .int .i64 0, .int .i64 0, .int .i64 0, .int .i64 0, .int .i64 0, .int .i64 0, .int .i64 0, .int .i64 0, .int .i64 0, .int .i64 0, .int .i64 0, .int .i64 0, .int .i64 0, .int .i64 0, .int .i64 0, .int .i64 0, .int .i64 0, .int .i64 0, .int .i64 0, .int .i64 0, .int .i64 0, .int .i64 0, .int .i64 0, .int .i64 0, .int .i64 0, .int .i64 0, .int .i64 0, .int .i64 0, .int .i64 0, .int .i64 0, .int .i64 0, .int .i64 0, .int .i64 0, .int .i64 0, .int .i64 0, .int .i64 0, .int .i64 0, .int .i64 0, .int .i64 0, .int .i64 0, .int .i64 0, .int .i64 0, .int .i64 0, .int .i64 0, .int .i64 0, .int .i64 0, .int .i64 0, .int .i64 0, .int .i64 0, .int .i64 0, .int .i64 0, .int .i64 0, .int .i64 0, .int .i64 0, .int .i64 0, .int .i64 0, .int .i64 0, .int .i64 0, .int .i64 0, .int .i64 0, .int .i64 0, .int .i64 0, .int .i64 0, .int .i64 0, .int .i64 0, .int .i64 0, .int .i64 0, .int .i64 0, .int .i64 0, .int .i64 0, .int .i64 0, .int .i64 0, .int .i64 0, .int .i64 0, .int .i64 0, .int .i64 0, .int .i64 0, .int .i64 0, .int .i64 0, .int .i64 0, .int .i64 0, .int .i64 0, .int .i64 0, .int .i64 0, .int .i64 0, .int .i64 0, .int .i64 0, .int .i64 0, .int .i64 0, .int .i64 0, .int .i64 0, .int .i64 0, .int .i64 0, .int .i64 0, .int .i64 0, .int .i64 0, .int .i64 0, .int .i64 0, .int .i64 0, .int .i64 0, .int .i64 0, .int .i64 0, .int .i64 0, .int .i64 0, .int .i64 0, .int .i64 0, .int .i64 0, .int .i64 0, .int .i64 0, .int .i64 0, .int .i64 0, .int .i64 0, .int .i64 0, .int .i64 0, .int .i64 0, .int .i64 0, .int .i64 0, .int .i64 0, .int .i64 0, .int .i64 0, .int .i64 0, .int .i64 0, .int .i64 0, .int .i64 0, .int .i64 0, .int .i64 0, .int .i64 0, .int .i64 0, .int .i64 0, .int .i64 0, .int .i64 0, .int .i64 0, .int .i64 0, .int .i64 0, .int .i64 0, .int .i64 0, .int .i64 0, .int .i64 0, .int .i64 0, .int .i64 0, .int .i64 0, .int .i64 0, .int .i64 0, .int .i64 0, .int .i64 0, .int .i64 0, .int .i64 0, .int .i64 0, .int .i64 0, .int .i64 0, .int .i64 0], []⟩
def pe : TI := ⟨.int .u64, 1, 8, [.int .u64 0], []⟩
def eu : TI := ⟨.slice 69, 1, 24, [.slice none 0 0], []⟩
def ex : TI := ⟨.func, 1, 8, [.nilFunc], []⟩
def ey : TI := ⟨.func, 1, 8, [.nilFunc], []⟩
def ez : TI := ⟨.func, 1, 8, [.nilFunc], []⟩
def fA : TI := ⟨.func, 1, 8, [.nilFunc], []⟩
def fC : TI := ⟨.func, 1, 8, [.nilFunc], []⟩
def fD : TI := ⟨.func, 1, 8, [.nilFunc], []⟩
def fE : TI := ⟨.func, 1, 8, [.nilFunc], []⟩
def fF : TI := ⟨.other, 1, 0, [], []⟩
def fG : TI := ⟨.func, 1, 8, [.nilFunc], []⟩
def fH : TI := ⟨.other, 1, 0, [], []⟩
def fJ : TI := ⟨.func, 1, 8, [.nilFunc], []⟩
def fK : TI := ⟨.func, 1, 8, [.nilFunc], []⟩
def fL : TI := ⟨.func, 1, 8, [.nilFunc], []⟩
def fM : TI := ⟨.func, 1, 8, [.nilFunc], []⟩
def fN : TI := ⟨.func, 1, 8, [.nilFunc], []⟩
def fO : TI := ⟨.func, 1, 8, [.nilFunc], []⟩
def fP : TI := ⟨.func, 1, 8, [.nilFunc], []⟩
def fQ : TI := ⟨.func, 1, 8, [.nilFunc], []⟩
def fR : TI := ⟨.func, 1, 8, [.nilFunc], []⟩
def fS : TI := ⟨.func, 1, 8, [.nilFunc], []⟩
def fT : TI := ⟨.func, 1, 8, [.nilFunc], []⟩
def fU : TI := ⟨.int .i64, 1, 8, [.int .i64 0], []⟩
def fV : TI := ⟨.other, 1, 0, [], []⟩
def fW : TI := ⟨.func, 1, 8, [.nilFunc], []⟩
def fX : TI := ⟨.func, 1, 8, [.nilFunc], []⟩
def fY : TI := ⟨.func, 1, 8, [.nilFunc], []⟩
def fZ : TI := ⟨.func, 1, 8, [.nilFunc], []⟩
def fd : TI := ⟨.other, 1, 0, [], []⟩
def fe : TI := ⟨.func, 1, 8, [.nilFunc], []⟩
def ff : TI := ⟨.func, 1, 8, [.nilFunc], []⟩
def fg : TI := ⟨.int .u32, 1, 4, [.int .u32 0], []⟩
def fh : TI := ⟨.func, 1, 8, [.nilFunc], []⟩
def fj : TI := ⟨.int .u64, 1, 8, [.int .u64 0], []⟩
def fk : TI := ⟨.func, 1, 8, [.nilFunc], []⟩
def fl : TI := ⟨.func, 1, 8, [.nilFunc], []⟩
def fm : TI := ⟨.func, 1, 8, [.nilFunc], []⟩
def fp : TI := ⟨.func, 1, 8, [.nilFunc], []⟩
def fq : TI := ⟨.func, 1, 8, [.nilFunc], []⟩
def fu : TI := ⟨.func, 1, 8, [.nilFunc], []⟩
def fw : TI := ⟨.int .u64, 1, 8, [.int .u64 0], []⟩
def fy : TI := ⟨.func, 1, 8, [.nilFunc], []⟩
def fz : TI := ⟨.func, 1, 8, [.nilFunc], []⟩
def gA : TI := ⟨.func, 1, 8, [.nilFunc], []⟩
def gC : TI := ⟨.ptr 3, 1, 8, [.pointer none], []⟩
def gE : TI := ⟨.func, 1, 8, [.nilFunc], []⟩
def gF : TI := ⟨.func, 1, 8, [.nilFunc], []⟩
def gG : TI := ⟨.func, 1, 8, [.nilFunc], []⟩
def gH : TI := ⟨.func, 1, 8, [.nilFunc], []⟩
def gJ : TI := ⟨.func, 1, 8, [.nilFunc], []⟩
def gK : TI := ⟨.func, 1, 8, [.nilFunc], []⟩
def gL : TI := ⟨.func, 1, 8, [.nilFunc], []⟩
def gM : TI := ⟨.ptr 140, 1, 8, [.pointer none], [("Next", 88)]⟩
def gN : TI := ⟨.other, 1, 0, [], []⟩
def gO : TI := ⟨.func, 1, 8, [.nilFunc], []⟩
def gP : TI := ⟨.func, 1, 8, [.nilFunc], []⟩
def gQ : TI := ⟨.func, 1, 8, [.nilFunc], []⟩
def gR : TI := ⟨.func, 1, 8, [.nilFunc], []⟩
def gS : TI := ⟨.arr 0 16, 0, 0, [], []⟩
def gT : TI := ⟨.int .u8, 1, 1, [.int .u8 0], []⟩
def gU : TI := ⟨.int .u8, 1, 1, [.int .u8 0], [("String", 118)]⟩
def gV : TI := ⟨.func, 1, 8, [.nilFunc], []⟩
def gW : TI := ⟨.ptr 5, 1, 8, [.pointer none], []⟩
def gX : TI := ⟨.int .i32, 1, 4, [.int .i32 0], []⟩
def gY : TI := ⟨.int .i32, 1, 4, [.int .i32 0], []⟩
def gZ : TI := ⟨.other, 1, 8, [.pointer none], []⟩
set_option maxRecDepth 100000 in
def ty : TTy := (.nd (some ty0) (.nd (some ty1) (.nd (some ty3) (.nd (some ty7) (.nd (some nv) (.nd (some oH) (.nd (some gd) (.nd (some fZ) .mt .mt) .mt) (.nd (some pY) (.nd none .mt .mt) .mt)) (.nd (some oU) (.nd (some pJ) (.nd (some gA) .mt .mt) .mt) (.nd (some fJ) .mt .mt))) (.nd (some RP) (.nd (some oM) (.nd (some pD) (.nd (some fl) .mt .mt) .mt) (.nd (some ez) (.nd (some gX) .mt .mt) .mt)) (.nd (some oe) (.nd (some pR) (.nd (some gL) .mt .mt) .mt) (.nd (some fR) .mt .mt)))) (.nd (some nt) (.nd none (.nd (some oK) (.nd (some pA) (.nd (some fg) .mt .mt) .mt) (.nd (some pe) (.nd (some gT) .mt .mt) .mt)) (.nd (some oZ) (.nd (some pN) (.nd (some gG) .mt .mt) .mt) (.nd (some fN) .mt .mt))) (.nd (some Hc) (.nd (some oQ) (.nd (some pG) (.nd (some fu) .mt .mt) .mt) (.nd (some fE) (.nd (some gZ) .mt .mt) .mt)) (.nd (some oq) (.nd (some pV) (.nd (some gP) .mt .mt) .mt) (.nd (some fV) .mt .mt))))) (.nd (some ty5) (.nd (some ty9) (.nd (some ny) (.nd (some oJ) (.nd (some o0) (.nd (some fe) .mt .mt) .mt) (.nd (some pd) (.nd none .mt .mt) .mt)) (.nd (some oW) (.nd (some pL) (.nd (some gE) .mt .mt) .mt) (.nd (some fL) .mt .mt))) (.nd (some PB) (.nd (some oO) (.nd (some RR) (.nd (some fp) .mt .mt) .mt) (.nd (some fC) (.nd none .mt .mt) .mt)) (.nd (some oh) (.nd (some pT) (.nd (some gN) .mt .mt) .mt) (.nd (some fT) .mt .mt)))) (.nd none (.nd (some oB) (.nd (some oL) (.nd (some GL) (.nd (some fj) .mt .mt) .mt) (.nd (some ex) (.nd (some gV) .mt .mt) .mt)) (.nd (some oc) (.nd (some pP) (.nd (some gJ) .mt .mt) .mt) (.nd (some fP) .mt .mt))) (.nd (some oF) (.nd (some oS) (.nd (some pI) (.nd (some fy) .mt .mt) .mt) (.nd (some fG) .mt .mt)) (.nd (some ou) (.nd (some pX) (.nd (some gR) .mt .mt) .mt) (.nd (some fX) .mt .mt)))))) (.nd (some ty2) (.nd (some ty4) (.nd none (.nd (some nw) (.nd (some oI) (.nd (some oz) (.nd (some fd) .mt .mt) .mt) (.nd (some pZ) (.nd (some gS) .mt .mt) .mt)) (.nd (some oV) (.nd (some pK) (.nd (some gC) .mt .mt) .mt) (.nd (some fK) .mt .mt))) (.nd (some PA) (.nd (some oN) (.nd (some pE) (.nd (some fm) .mt .mt) .mt) (.nd (some fA) (.nd (some gY) .mt .mt) .mt)) (.nd (some FA) (.nd (some pS) (.nd (some gM) .mt .mt) .mt) (.nd (some fS) .mt .mt)))) (.nd (some nu) (.nd (some nz) (.nd (some Ec) (.nd (some pB) (.nd (some fh) .mt .mt) .mt) (.nd (some eu) (.nd (some gU) .mt .mt) .mt)) (.nd (some oa) (.nd (some pO) (.nd (some gH) .mt .mt) .mt) (.nd (some fO) .mt .mt))) (.nd (some oE) (.nd (some oR) (.nd (some pH) (.nd (some fw) .mt .mt) .mt) (.nd (some fF) .mt .mt)) (.nd (some ot) (.nd (some pW) (.nd (some gQ) .mt .mt) .mt) (.nd (some fW) .mt .mt))))) (.nd (some ty6) (.nd (some nr) (.nd none (.nd (some GK) (.nd (some ZE) (.nd (some ff) .mt .mt) .mt) (.nd (some gf) (.nd none .mt .mt) .mt)) (.nd (some oY) (.nd (some pM) (.nd (some gF) .mt .mt) .mt) (.nd (some fM) .mt .mt))) (.nd (some oD) (.nd (some oP) (.nd (some pF) (.nd (some fq) .mt .mt) .mt) (.nd (some fD) (.nd none .mt .mt) .mt)) (.nd (some ol) (.nd (some pU) (.nd (some gO) .mt .mt) .mt) (.nd (some fU) .mt .mt)))) (.nd none (.nd (some oC) (.nd (some Ix) (.nd (some pC) (.nd (some fk) .mt .mt) .mt) (.nd (some ey) (.nd (some gW) .mt .mt) .mt)) (.nd (some od) (.nd (some pQ) (.nd (some gK) .mt .mt) .mt) (.nd (some fQ) .mt .mt))) (.nd (some oG) (.nd (some oT) (.nd (some RT) (.nd (some fz) .mt .mt) .mt) (.nd (some fH) .mt .mt)) (.nd (some ov) (.nd (some ge) (.nd none .mt .mt) .mt) (.nd (some fY) .mt .mt)))))))
end
end Go.Proofs.Ythcfmklkbakkpaa

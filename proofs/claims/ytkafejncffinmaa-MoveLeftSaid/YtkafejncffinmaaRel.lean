/-
  HOW THE CANONICAL MACHINE's VALUES AND HEAP STAND TO THE MODEL's.
-/
import Derived.Test.YtkafejncffinmaaComp
import Derived.Test.YtkafejncffinmaaTrees
namespace Go.Proofs.Ytkafejncffinmaa
open Go

theorem fullT_get : ∀ (n i : Nat), (fullT n).get i = .dead
  | 0, i => rfl
  | n + 1, 0 => rfl
  | n + 1, k + 1 => by
    show (BT.nd .dead (fullT n) (fullT n)).get (k + 1) = _
    rw [BT.get_nd_succ]
    split <;> exact fullT_get n _

/-- where a row of the machine lies in the model's heap: the block, where it begins, how many cells it has, how many there are up to the
    block's end, how many cells an element has -/
structure Pl where
  blk : Nat
  off : Nat
  sz : Nat
  room : Nat
  es : Nat
  /-- it came in: it may lie anywhere in its block, others that came in may lie there too; it is only read -/
  inp : Bool := false
abbrev Phi := Nat → Option Pl

def RelA (φ : Phi) (a a' : Addr) : Prop :=
  a.spot = none ∧ a'.spot = none ∧ ∃ p, φ a.block = some p ∧ a'.block = p.blk ∧ a'.off = p.off + a.off
def RelS (φ : Phi) (a : Addr) (c : Nat) (a' : Addr) (c' : Nat) : Prop :=
  a.spot = none ∧ a'.spot = none ∧ ∃ p, φ a.block = some p ∧ a'.block = p.blk ∧
    ((0 < c ∧ a'.off = p.off + a.off ∧ (c' = c ∨ a.off + c * p.es = p.sz ∧ c ≤ c' ∧ a.off + c' * p.es ≤ p.room)) ∨
     (c = 0 ∧ (c' = 0 ∨ a'.off = p.off + p.sz ∧ p.sz + c' * p.es ≤ p.room)))

mutual
inductive RelV (φ : Phi) : Value → Value → Prop
  | bool (b : Bool) : RelV φ (.bool b) (.bool b)
  | int (k : IntKind) (n : Int) : RelV φ (.int k n) (.int k n)
  | string (s : ByteArray) : RelV φ (.string s) (.string s)
  | ptr0 : RelV φ (.pointer none) (.pointer none)
  | ptr {a a' : Addr} (h : RelA φ a a') : RelV φ (.pointer (some a)) (.pointer (some a'))
  | slice0 : RelV φ (.slice none 0 0) (.slice none 0 0)
  | slice {a a' : Addr} {n c c' : Nat} (hn : n ≤ c) (h : RelS φ a c a' c') : RelV φ (.slice (some a) n c) (.slice (some a') n c')
  | map0 : RelV φ (.map none) (.map none)
  | map {r : Nat} {p : Pl} (h : φ r = some p) : RelV φ (.map (some r)) (.map (some p.blk))
  | func (fn : Fn) {f f' c c' : List Value} (h : RelL φ f f') (h2 : RelL φ c c') : RelV φ (.func fn ⟨f⟩ ⟨c⟩) (.func fn ⟨f'⟩ ⟨c'⟩)
  | nilFunc : RelV φ .nilFunc .nilFunc
  | iface (t : TypeId) {v v' : Value} (h : RelV φ v v') : RelV φ (.iface t v) (.iface t v')
  | nilIface : RelV φ .nilIface .nilIface
  | agg {l l' : List Value} (h : RelL φ l l') : RelV φ (.agg ⟨l⟩) (.agg ⟨l'⟩)
  | tuple {l l' : List Value} (h : RelL φ l l') : RelV φ (.tuple ⟨l⟩) (.tuple ⟨l'⟩)
  | unk {v' : Value} : RelV φ (.chan none) v'
inductive RelL (φ : Phi) : List Value → List Value → Prop
  | nil : RelL φ [] []
  | cons {v v' : Value} {l l' : List Value} (h : RelV φ v v') (t : RelL φ l l') : RelL φ (v :: l) (v' :: l')
end

def Phi.Le (φ ψ : Phi) : Prop := ∀ i p, φ i = some p → ψ i = some p
theorem Phi.Le.refl (φ : Phi) : φ.Le φ := fun _ _ h => h
theorem Phi.Le.trans {φ ψ χ : Phi} (h : φ.Le ψ) (h' : ψ.Le χ) : φ.Le χ := fun i p e => h' i p (h i p e)

theorem RelA.mono {φ ψ : Phi} (hle : φ.Le ψ) {a a' : Addr} : RelA φ a a' → RelA ψ a a'
  | ⟨s, s', p, hp, r⟩ => ⟨s, s', p, hle _ _ hp, r⟩
theorem RelS.mono {φ ψ : Phi} (hle : φ.Le ψ) {a a' : Addr} {c c' : Nat} : RelS φ a c a' c' → RelS ψ a c a' c'
  | ⟨s, s', p, hp, r⟩ => ⟨s, s', p, hle _ _ hp, r⟩
mutual
theorem RelV.mono {φ ψ : Phi} (hle : φ.Le ψ) : ∀ {v v' : Value}, RelV φ v v' → RelV ψ v v'
  | _, _, .bool b => .bool b
  | _, _, .int k n => .int k n
  | _, _, .string s => .string s
  | _, _, .ptr0 => .ptr0
  | _, _, .ptr h => .ptr (h.mono hle)
  | _, _, .slice0 => .slice0
  | _, _, .slice hn h => .slice hn (h.mono hle)
  | _, _, .map0 => .map0
  | _, _, .map h => .map (hle _ _ h)
  | _, _, .func fn h h2 => .func fn (RelL.mono hle h) (RelL.mono hle h2)
  | _, _, .nilFunc => .nilFunc
  | _, _, .iface t h => .iface t (RelV.mono hle h)
  | _, _, .nilIface => .nilIface
  | _, _, .agg h => .agg (RelL.mono hle h)
  | _, _, .tuple h => .tuple (RelL.mono hle h)
  | _, _, .unk => .unk
theorem RelL.mono {φ ψ : Phi} (hle : φ.Le ψ) : ∀ {l l' : List Value}, RelL φ l l' → RelL ψ l l'
  | _, _, .nil => .nil
  | _, _, .cons h t => .cons (RelV.mono hle h) (RelL.mono hle t)
end

theorem RelL.length {φ : Phi} : ∀ {l l' : List Value}, RelL φ l l' → l'.length = l.length
  | _, _, .nil => rfl
  | _, _, .cons _ t => congrArg (· + 1) t.length
theorem RelL.append {φ : Phi} : ∀ {l l' m m' : List Value}, RelL φ l l' → RelL φ m m' → RelL φ (l ++ m) (l' ++ m')
  | _, _, _, _, .nil, h => h
  | _, _, _, _, .cons h t, h' => .cons h (t.append h')
theorem RelL.get {φ : Phi} : ∀ {l l' : List Value}, RelL φ l l' → ∀ (i : Nat) (v : Value), l[i]? = some v → ∃ v', l'[i]? = some v' ∧ RelV φ v v'
  | _, _, .nil, i, v, h => by cases i <;> cases h
  | _, _, .cons h t, 0, v, e => by cases e; exact ⟨_, rfl, h⟩
  | _, _, .cons h t, i + 1, v, e => t.get i v e
theorem RelL.take {φ : Phi} : ∀ {l l' : List Value}, RelL φ l l' → ∀ n : Nat, RelL φ (l.take n) (l'.take n)
  | _, _, .nil, n => by cases n <;> exact .nil
  | _, _, .cons h t, 0 => .nil
  | _, _, .cons h t, n + 1 => .cons h (t.take n)
theorem RelL.drop {φ : Phi} : ∀ {l l' : List Value}, RelL φ l l' → ∀ n : Nat, RelL φ (l.drop n) (l'.drop n)
  | _, _, .nil, n => by cases n <;> exact .nil
  | _, _, .cons h t, 0 => .cons h t
  | _, _, .cons h t, n + 1 => t.drop n

theorem RelV.plain {φ : Phi} {v : Value} (h : plainV v = true) : RelV φ v v := by
  unfold plainV at h
  split at h <;> first | constructor | cases h
theorem RelL.plain {φ : Phi} : ∀ {l : List Value}, (l.all plainV) = true → RelL φ l l
  | [], _ => .nil
  | v :: l, h => by
    simp only [List.all_cons, Bool.and_eq_true] at h
    exact .cons (.plain h.1) (.plain h.2)

/-- is the block in use? -/
def Live (h : Hp) (i : Nat) : Prop := h.bl.get i ≠ .dead

inductive RelE (φ : Phi) : List Ent → List MapEntry → Prop
  | nil : RelE φ [] []
  | cons {k k' v v' : Value} {b : Nat} {l : List Ent} {l' : List MapEntry} (hk : RelV φ k k') (hv : RelV φ v v') (t : RelE φ l l') :
      RelE φ (⟨k, v, b⟩ :: l) (⟨k', v', b⟩ :: l')
theorem RelE.mono {φ ψ : Phi} (hle : φ.Le ψ) : ∀ {l : List Ent} {l' : List MapEntry}, RelE φ l l' → RelE ψ l l'
  | _, _, .nil => .nil
  | _, _, .cons hk hv t => .cons (hk.mono hle) (hv.mono hle) (t.mono hle)

/-- how many cells a row has, and of what elements -/
def Kind (ty : TTy) (p : Pl) (s e : Nat) : Prop :=
  p.sz = s ∧ ((e = 0 ∧ p.room = p.sz ∧ p.es = 1 ∧ (p.off = 0 ∨ p.inp = true)) ∨ ∃ t ti, e = t + 1 ∧ ty.get t = some ti ∧ p.es = ti.size)
/-- a row's cells -/
structure RelC (ty : TTy) (φ : Phi) (p : Pl) (c : VT) (s e : Nat) (cs : Array Value) (fr : Nat × Nat) : Prop where
  kind : Kind ty p s e
  room : p.sz ≤ p.room
  fits : p.off + p.room ≤ cs.size
  loose : (fr.1 = fr.2 ∨ cs.size ≤ fr.1) ∨ (e = 0 ∧ ∀ o, p.off ≤ o → o < p.off + p.room → ¬ (fr.1 ≤ o ∧ o < fr.2))
  cell : ∀ j, j < s → ∃ v, cs[p.off + j]? = some v ∧ RelV φ (c.get j) v

theorem RelC.sz {ty : TTy} {φ : Phi} {p : Pl} {c : VT} {s e : Nat} {cs : Array Value} {fr : Nat × Nat} (R : RelC ty φ p c s e cs fr) : p.sz = s := R.kind.1
/-- what a block of the machine stands for -/
inductive RelB (ty : TTy) (φ : Phi) (p : Pl) : Blk → Option Obj → Prop
  | cells {c s e cs t fr} (h : RelC ty φ p c s e cs fr) : RelB ty φ p (.cells c s e) (some (.cells cs t fr))
  | map {es clk es'} (h : RelE φ es es') : RelB ty φ p (.map es clk) (some (.map ⟨es'⟩ clk))
  | iter0 {s l t} (hp : p.off = 0) : RelB ty φ p (.iter none s l t) (some (.mapIter none s ⟨l⟩ t))
  | iter {m q s l t} (hp : p.off = 0) (h : φ m = some q) : RelB ty φ p (.iter (some m) s l t) (some (.mapIter (some q.blk) s ⟨l⟩ t))
  | cur {m q s sn l t} (hp : p.off = 0) (h : φ m = some q) (hl : l.getLast? = some s) : RelB ty φ p (.cur m s t) (some (.mapIter (some q.blk) sn ⟨l⟩ t))
  | dead {o} : RelB ty φ p .dead o

theorem RelB.mono {ty : TTy} {φ ψ : Phi} (hle : φ.Le ψ) {p : Pl} {b : Blk} {o : Option Obj} : RelB ty φ p b o → RelB ty ψ p b o
  | .cells h => .cells { h with cell := fun j hj => let ⟨v, e, r⟩ := h.cell j hj; ⟨v, e, r.mono hle⟩ }
  | .map h => .map (h.mono hle)
  | .iter0 h => .iter0 h
  | .iter hp h => .iter hp (hle _ _ h)
  | .cur hp h hl => .cur hp (hle _ _ h) hl
  | .dead => .dead

/-- the machine's heap and the model's, but for the blocks in E -/
structure RelW (ty : TTy) (φ : Phi) (E : Nat → Prop) (h : Hp) (w : World) : Prop where
  dom : ∀ i p, φ i = some p → i < h.next ∧ p.blk < w.heap.size
  inj : ∀ i j p q, φ i = some p → φ j = some q → ¬ E i → ¬ E j → Live h i → Live h j → (p.inp = false ∨ q.inp = false) → p.blk = q.blk → i = j
  row : ∀ i p, φ i = some p → ¬ E i → RelB ty φ p (h.bl.get i) w.heap[p.blk]?
  fresh : ∀ i, h.next ≤ i → h.bl.get i = .dead
  kind : ∀ i p c s e, φ i = some p → h.bl.get i = .cells c s e → Kind ty p s e
  inp : ∀ i p, φ i = some p → p.inp = true → i < 256

/-- a block stays of its kind, or is given up -/
def ShapeLe (a b : Blk) : Prop := b = .dead ∨ match a, b with
  | .cells _ s e, .cells _ s' e' => s = s' ∧ e = e'
  | .map _ _, .map _ _ => True
  | .iter _ _ _ _, .iter _ _ _ _ => True
  | .cur _ _ _, .cur _ _ _ => True
  | .pick _ _ _ _, .pick _ _ _ _ => True
  | _, _ => False
theorem ShapeLe.refl (a : Blk) : ShapeLe a a := by cases a <;> first | exact .inl rfl | exact .inr ⟨rfl, rfl⟩ | exact .inr trivial
theorem ShapeLe.trans {a b c : Blk} (h : ShapeLe a b) (h' : ShapeLe b c) : ShapeLe a c := by
  rcases h' with rfl | h'
  · exact .inl rfl
  · rcases h with rfl | h
    · cases c <;> exact h'.elim
    · cases a <;> cases b <;> first | (exact h.elim; done) | (cases c <;> first | (exact h'.elim; done) | exact .inr trivial | exact .inr ⟨h.1.trans h'.1, h.2.trans h'.2⟩)
theorem ShapeLe.of_dead {b : Blk} (h : ShapeLe .dead b) : b = .dead := by
  rcases h with h | h
  · exact h
  · cases b <;> exact h.elim
theorem ShapeLe.live {a b : Blk} (h : ShapeLe a b) (hb : b ≠ .dead) : a ≠ .dead := by
  intro ha; subst ha; exact hb h.of_dead
theorem ShapeLe.cells {a : Blk} {c : VT} {s e : Nat} (h : ShapeLe a (.cells c s e)) : ∃ c', a = .cells c' s e := by
  rcases h with h | h
  · cases h
  · cases a <;> first | (exact h.elim; done) | (obtain ⟨rfl, rfl⟩ := h; exact ⟨_, rfl⟩)

/-- what a piece of the run did -/
structure Evo (φ : Phi) (h : Hp) (w : World) (φ' : Phi) (h' : Hp) (w' : World) : Prop where
  le : φ.Le φ'
  new : ∀ i p, φ' i = some p → φ i = some p ∨ h.next ≤ i
  next : h.next ≤ h'.next
  size : w.heap.size ≤ w'.heap.size
  tape : w'.tape = w.tape
  os : w'.os = w.os
  output : w'.output = w.output
  frame : ∀ k, k < w.heap.size → (∀ i p, φ i = some p → p.inp = false → h'.low ≤ i → i ≤ h'.high → Live h i → p.blk ≠ k) → w'.heap[k]? = w.heap[k]?
  back : ∀ i p, φ' i = some p → Live h' i → p.blk < w.heap.size → ∃ j q, φ j = some q ∧ Live h j ∧ q.blk = p.blk ∧ q.inp = p.inp ∧ (j = i ∨ h'.low ≤ j ∧ j ≤ h'.high)
  kept : ∀ i, i < h.next → (i < h'.low ∨ h'.high < i) → h'.bl.get i = h.bl.get i
  low : h'.low ≤ h.low
  high : h.high ≤ h'.high
  shape : ∀ i, i < h.next → ShapeLe (h.bl.get i) (h'.bl.get i)
  only : ∀ i, i < h.next → φ i = none → h'.bl.get i = h.bl.get i
  all : ∀ i, h.next ≤ i → i < h'.next → ∃ p, φ' i = some p

theorem Evo.refl (φ : Phi) (h : Hp) (w : World) : Evo φ h w φ h w where
  le := .refl φ
  new := fun _ _ e => .inl e
  next := Nat.le_refl _
  size := Nat.le_refl _
  tape := rfl
  os := rfl
  output := rfl
  frame := fun _ _ _ => rfl
  back := fun i p e hl _ => ⟨i, p, e, hl, rfl, rfl, .inl rfl⟩
  kept := fun _ _ _ => rfl
  low := Nat.le_refl _
  high := Nat.le_refl _
  shape := fun _ _ => .refl _
  only := fun _ _ _ => rfl
  all := fun _ h1 h2 => absurd h2 (Nat.not_lt.2 h1)

theorem Evo.trans {φ ψ χ : Phi} {h₁ h₂ h₃ : Hp} {w₁ w₂ w₃ : World}
    (a : Evo φ h₁ w₁ ψ h₂ w₂) (b : Evo ψ h₂ w₂ χ h₃ w₃) : Evo φ h₁ w₁ χ h₃ w₃ where
  le := a.le.trans b.le
  new := fun i p e => by
    rcases b.new i p e with h | h
    · exact a.new i p h
    · exact .inr (Nat.le_trans a.next h)
  next := Nat.le_trans a.next b.next
  size := Nat.le_trans a.size b.size
  tape := b.tape.trans a.tape
  os := b.os.trans a.os
  output := b.output.trans a.output
  frame := fun k hk hf => by
    have h1 : w₂.heap[k]? = w₁.heap[k]? := a.frame k hk fun i p e hn hl hg hv => hf i p e hn (Nat.le_trans b.low hl) (Nat.le_trans hg b.high) hv
    rw [← h1]
    refine b.frame k (Nat.lt_of_lt_of_le hk a.size) fun i p e hn hl hg hv hk' => ?_
    obtain ⟨j, q, ej, lj, hq, hqi, hor⟩ := a.back i p e hv (hk' ▸ hk)
    refine hf j q ej (hqi.trans hn) ?_ ?_ lj (hq.trans hk')
    · rcases hor with rfl | h
      · exact hl
      · exact Nat.le_trans b.low h.1
    · rcases hor with rfl | h
      · exact hg
      · exact Nat.le_trans h.2 b.high
  back := fun i p e hv hp => by
    obtain ⟨j, q, ej, lj, hq, hqi, hor⟩ := b.back i p e hv (Nat.lt_of_lt_of_le hp a.size)
    obtain ⟨k, r, ek, lk, hr, hri, hor'⟩ := a.back j q ej lj (hq ▸ hp)
    refine ⟨k, r, ek, lk, hr.trans hq, hri.trans hqi, ?_⟩
    rcases hor' with rfl | h
    · exact hor
    · exact .inr ⟨Nat.le_trans b.low h.1, Nat.le_trans h.2 b.high⟩
  kept := fun i hi hl => by
    rw [b.kept i (Nat.lt_of_lt_of_le hi a.next) hl, a.kept i hi (hl.imp (fun h => Nat.lt_of_lt_of_le h b.low) (fun h => Nat.lt_of_le_of_lt b.high h))]
  low := Nat.le_trans b.low a.low
  high := Nat.le_trans a.high b.high
  shape := fun i hi => (a.shape i hi).trans (b.shape i (Nat.lt_of_lt_of_le hi a.next))
  only := fun i hi h0 => by
    have h1 : ψ i = none := by
      cases e : ψ i with
      | none => rfl
      | some p =>
        rcases a.new i p e with h | h
        · rw [h0] at h; cases h
        · omega
    rw [b.only i (Nat.lt_of_lt_of_le hi a.next) h1, a.only i hi h0]
  all := fun i h1 h2 => by
    rcases Nat.lt_or_ge i h₂.next with h | h
    · obtain ⟨p, hp⟩ := a.all i h1 h; exact ⟨p, b.le i p hp⟩
    · exact b.all i h h2
end Go.Proofs.Ytkafejncffinmaa

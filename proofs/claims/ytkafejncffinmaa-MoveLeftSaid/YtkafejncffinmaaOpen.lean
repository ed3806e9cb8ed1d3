/-
  A region's operations in any order that its edges allow: the laws, and what holds when some of them have been carried out.
-/
import Derived.Test.YtkafejncffinmaaText
set_option linter.unusedSimpArgs false
set_option linter.unusedVariables false
namespace Go.Proofs.Ytkafejncffinmaa
open Go

section
variable {φ ψ χ : Phi}
theorem RelA.cut (hx : ∀ b p, φ b = some p → (∃ q, ψ b = some q) → χ b = some p) {a a' a'' : Addr} : RelA φ a a' → RelA ψ a a'' → RelA χ a a'
  | ⟨s, s', p, hp, r⟩, ⟨_, _, q, hq, _⟩ => ⟨s, s', p, hx _ _ hp ⟨q, hq⟩, r⟩
theorem RelS.cut (hx : ∀ b p, φ b = some p → (∃ q, ψ b = some q) → χ b = some p) {a a' a'' : Addr} {c c' c'' : Nat} : RelS φ a c a' c' → RelS ψ a c a'' c'' → RelS χ a c a' c'
  | ⟨s, s', p, hp, r⟩, ⟨_, _, q, hq, _⟩ => ⟨s, s', p, hx _ _ hp ⟨q, hq⟩, r⟩
mutual
theorem RelV.cut (hx : ∀ b p, φ b = some p → (∃ q, ψ b = some q) → χ b = some p) : ∀ {v v' v'' : Value}, RelV φ v v' → RelV ψ v v'' → RelV χ v v'
  | _, _, _, .bool b, _ => .bool b
  | _, _, _, .int k n, _ => .int k n
  | _, _, _, .string s, _ => .string s
  | _, _, _, .ptr0, _ => .ptr0
  | _, _, _, .ptr h, h2 => by cases h2 with | ptr h2 => exact .ptr (h.cut hx h2)
  | _, _, _, .slice0, _ => .slice0
  | _, _, _, .slice hn h, h2 => by cases h2 with | slice _ h2 => exact .slice hn (h.cut hx h2)
  | _, _, _, .map0, _ => .map0
  | _, _, _, .map h, h2 => by cases h2 with | map h2 => exact .map (hx _ _ h ⟨_, h2⟩)
  | _, _, _, .func fn h h', h2 => by cases h2 with | func _ h2 h2' => exact .func fn (RelL.cut hx h h2) (RelL.cut hx h' h2')
  | _, _, _, .nilFunc, _ => .nilFunc
  | _, _, _, .iface t h, h2 => by cases h2 with | iface _ h2 => exact .iface t (RelV.cut hx h h2)
  | _, _, _, .nilIface, _ => .nilIface
  | _, _, _, .agg h, h2 => by cases h2 with | agg h2 => exact .agg (RelL.cut hx h h2)
  | _, _, _, .tuple h, h2 => by cases h2 with | tuple h2 => exact .tuple (RelL.cut hx h h2)
  | _, _, _, .unk, _ => .unk
theorem RelL.cut (hx : ∀ b p, φ b = some p → (∃ q, ψ b = some q) → χ b = some p) : ∀ {v v' v'' : List Value}, RelL φ v v' → RelL ψ v v'' → RelL χ v v'
  | _, _, _, .nil, _ => .nil
  | _, _, _, .cons h t, h2 => by cases h2 with | cons h2 t2 => exact .cons (RelV.cut hx h h2) (RelL.cut hx t t2)
end
theorem RelE.cut (hx : ∀ b p, φ b = some p → (∃ q, ψ b = some q) → χ b = some p) : ∀ {l : List Ent} {l' l'' : List MapEntry}, RelE φ l l' → RelE ψ l l'' → RelE χ l l'
  | _, _, _, .nil, _ => .nil
  | _, _, _, .cons hk hv t, h2 => by cases h2 with | cons hk2 hv2 t2 => exact .cons (hk.cut hx hk2) (hv.cut hx hv2) (RelE.cut hx t t2)
theorem RelB.cut {ty : TTy} (hx : ∀ b p, φ b = some p → (∃ q, ψ b = some q) → χ b = some p) {p p2 : Pl} {b : Blk} {o o2 : Option Obj} (h : RelB ty φ p b o) (h2 : RelB ty ψ p2 b o2) : RelB ty χ p b o := by
  cases h with
  | cells h => cases h2 with
    | cells h2 => exact .cells { h with cell := fun j hj => let ⟨v, e, r⟩ := h.cell j hj; let ⟨v2, _, r2⟩ := h2.cell j hj; ⟨v, e, r.cut hx r2⟩ }
  | map h => cases h2 with
    | map h2 => exact .map (h.cut hx h2)
  | iter0 h => exact .iter0 h
  | iter hp h => cases h2 with
    | iter _ h2 => exact .iter hp (hx _ _ h ⟨_, h2⟩)
  | cur hp h hl => cases h2 with
    | cur _ h2 _ => exact .cur hp (hx _ _ h ⟨_, h2⟩) hl
  | dead => exact .dead
end

/-- what an open order must keep to -/
structure Laws (ty : TTy) (all : List Oper) (ρ : Nat → Rho) (H : Nat → Hp) (T : Nat → Nat → Prop) (B : Nat → Nat → Prop) : Prop where
  lt : ∀ i j, B i j → i < j
  slots : ∀ i j oi oj d, i ≠ j → all[i]? = some oi → all[j]? = some oj → oi.dst = some d →
    (oj.dst = some d ∨ .tmp d ∈ oj.op.operands.toList ∨ ∃ g w og, oj.guard = some (g, w) ∧ all[g]? = some og ∧ og.dst = some d) → B i j ∨ B j i
  kinds : ∀ j oj c, all[j]? = some oj → T j c → (∃ x, kd ty oj.op = .w x) ∨ kd ty oj.op = .q
  fixed : ∀ i j oi c, i ≠ j → all[i]? = some oi → j < all.length → T j c → ((∃ x, kd ty oi.op = .w x) ∨ kd ty oi.op = .q) → B i j ∨ B j i
  reads : ∀ i j oi x c u, i ≠ j → all[i]? = some oi → j < all.length → T j c → kd ty oi.op = .r x → evR (ρ i) x = some u → blkOf u = .ok c → B i j ∨ B j i
  tlt : ∀ j c, j < all.length → T j c → c < (H j).next
  tout : ∀ j c, j < all.length → T j c → (H all.length).low ≤ c ∧ c ≤ (H all.length).high
  low : (H all.length).low ≤ (H 0).low
  high : (H 0).high ≤ (H all.length).high

/-- what holds when the operations of S have been carried out -/
structure Inv (ty : TTy) (N : Nat) (all : List Oper) (ρ : Nat → Rho) (H : Nat → Hp) (T : Nat → Nat → Prop) (φ0 : Phi) (w0 : World) (S : Nat → Prop) (φ : Phi) (C : Nat → Blk) (a : Act) (w : World) : Prop where
  dom : ∀ b p, φ b = some p → p.blk < w.heap.size ∧ (b < (H 0).next ∨ ∃ j, S j ∧ j < all.length ∧ (H j).next ≤ b ∧ b < (H (j + 1)).next)
  inj : ∀ b c p q, φ b = some p → φ c = some q → C b ≠ .dead → C c ≠ .dead → (p.inp = false ∨ q.inp = false) → p.blk = q.blk → b = c
  row : ∀ b p, φ b = some p → RelB ty φ p (C b) w.heap[p.blk]?
  kind : ∀ k, k ≤ all.length → ∀ b p c s e, φ b = some p → b < (H k).next → (H k).bl.get b = .cells c s e → Kind ty p s e
  inp : ∀ b p, φ b = some p → p.inp = true → b < 256
  link : ∀ k, k ≤ all.length → ∀ b p, φ b = some p → b < (H k).next → (∀ j, j < all.length → T j b → (j < k → S j) ∧ (k ≤ j → ¬ S j)) → C b = (H k).bl.get b
  chg : ∀ j, S j → j < all.length → ∀ b, b < (H j).next → (H (j + 1)).bl.get b ≠ (H j).bl.get b → ∃ p, φ b = some p
  full : ∀ j, S j → j < all.length → ∀ b, (H j).next ≤ b → b < (H (j + 1)).next → ∃ p, φ b = some p
  slot : ∀ k, k ≤ all.length → ∀ t u, (∀ j o, all[j]? = some o → o.dst = some t → (j < k → S j) ∧ (k ≤ j → ¬ S j)) → ρ k t = some u → RelV φ u (a.tmps.getD t undef)
  size : a.tmps.size = N
  defs : a.defers = []
  le : φ0.Le φ
  new : ∀ b p, φ b = some p → φ0 b = some p ∨ (H 0).next ≤ b
  sz : w0.heap.size ≤ w.heap.size
  tape : w.tape = w0.tape
  os : w.os = w0.os
  output : w.output = w0.output
  frame : ∀ k, k < w0.heap.size → (∀ c p, φ0 c = some p → p.inp = false → (H all.length).low ≤ c → c ≤ (H all.length).high → Live (H 0) c → p.blk ≠ k) → w.heap[k]? = w0.heap[k]?
  back : ∀ b p, φ b = some p → C b ≠ .dead → p.blk < w0.heap.size → ∃ c q, φ0 c = some q ∧ Live (H 0) c ∧ q.blk = p.blk ∧ q.inp = p.inp ∧ (c = b ∨ (H all.length).low ≤ c ∧ c ≤ (H all.length).high)

section
variable {P : Program} {ty : TTy} {N : Nat} {all : List Oper} {ρ : Nat → Rho} {H : Nat → Hp} {V : Nat → Value} {T : Nat → Nat → Prop} {φ0 : Phi} {w0 : World} {B : Nat → Nat → Prop}

theorem Txt.mono {φ : Phi} {n : Nat} (t : Txt P ty N φ ρ H V T n) {i : Nat} : ∀ {k : Nat}, i ≤ k → k ≤ n → (H i).next ≤ (H k).next := by
  intro k h hn
  induction k with
  | zero => have : i = 0 := Nat.le_zero.1 h; subst this; exact Nat.le_refl _
  | succ k ih =>
    rcases Nat.lt_or_ge k i with h2 | h2
    · have : i = k + 1 := by omega
      subst this; exact Nat.le_refl _
    · exact Nat.le_trans (ih h2 (by omega)) (t.next k (by omega))
theorem Txt.shapes {φ : Phi} {n : Nat} (t : Txt P ty N φ ρ H V T n) {i : Nat} {b : Nat} (hb : b < (H i).next) : ∀ {k : Nat}, i ≤ k → k ≤ n → ShapeLe ((H i).bl.get b) ((H k).bl.get b) := by
  intro k h hn
  induction k with
  | zero => have : i = 0 := Nat.le_zero.1 h; subst this; exact .refl _
  | succ k ih =>
    rcases Nat.lt_or_ge k i with h2 | h2
    · have : i = k + 1 := by omega
      subst this; exact .refl _
    · exact (ih h2 (by omega)).trans (t.shape k (by omega) b (Nat.lt_of_lt_of_le hb (t.mono h2 (by omega))))
theorem Txt.same {φ : Phi} {n : Nat} (t : Txt P ty N φ ρ H V T n) {i : Nat} {b : Nat} : ∀ {k : Nat}, i ≤ k → k ≤ n → (∀ m, i ≤ m → m < k → (H (m + 1)).bl.get b = (H m).bl.get b) → (H k).bl.get b = (H i).bl.get b := by
  intro k h hn hs
  induction k with
  | zero => have : i = 0 := Nat.le_zero.1 h; subst this; rfl
  | succ k ih =>
    rcases Nat.lt_or_ge k i with h2 | h2
    · have : i = k + 1 := by omega
      subst this; rfl
    · rw [hs k h2 (by omega)]; exact ih h2 (by omega) fun m h1 h2 => hs m h1 (by omega)
theorem Tr.backward {run : Nat → Bool} {ahs : List Ahead} (tr : Tr P ty all ahs all ρ H V run T) {t : Nat} {u : Value} {i : Nat} : ∀ {k : Nat}, i ≤ k → k ≤ all.length → (∀ m o, i ≤ m → m < k → all[m]? = some o → o.dst ≠ some t) → ρ k t = some u → ρ i t = some u := by
  intro k h hn hs hu
  induction k with
  | zero => have : i = 0 := Nat.le_zero.1 h; subst this; exact hu
  | succ k ih =>
    rcases Nat.lt_or_ge k i with h2 | h2
    · have : i = k + 1 := by omega
      subst this; exact hu
    · have hk : k < all.length := by omega
      have ho : all[k]? = some all[k] := List.getElem?_eq_getElem hk
      have := (tr.sf k all[k] ho).slot t u hu
      rw [if_neg (hs k all[k] h2 (Nat.lt_succ_self _) ho)] at this
      exact ih h2 (by omega) (fun m o h1 h2 => hs m o h1 (by omega)) this

/-- what an operation has changed ahead of its time, or not yet -/
def Early (n : Nat) (T : Nat → Nat → Prop) (S : Nat → Prop) (h : Hp) (i : Nat) : Nat → Prop := fun b => b < h.next ∧ ¬ ∀ j, j < n → T j b → (j < i → S j) ∧ (i ≤ j → ¬ S j)
/-- what of the model's memory the machine's heap ahead of operation i speaks of -/
def upto (φ : Phi) (n : Nat) : Phi := fun b => if b < n then φ b else none
theorem upto_some {φ : Phi} {n b : Nat} {p : Pl} (h : upto φ n b = some p) : b < n ∧ φ b = some p := by
  unfold upto at h
  split at h
  · exact ⟨‹_›, h⟩
  · cases h

theorem Inv.relw {φ : Phi} {C : Nat → Blk} {a : Act} {w : World} {S : Nat → Prop} (I : Inv ty N all ρ H T φ0 w0 S φ C a w) (txt : Txt P ty N φ0 ρ H V T all.length) {i : Nat} (hi : i ≤ all.length) :
    RelW ty (upto φ (H i).next) (Early all.length T S (H i) i) (H i) w ∧ ∃ (ψ : Phi) (b : Act), AR N ψ (ρ i) b ∧ ∀ b p, φ b = some p → (∃ q, ψ b = some q) → upto φ (H i).next b = some p := by
  obtain ⟨ψ, wt, at', HW, HA, hle, hall⟩ := txt.well i hi
  have hx : ∀ b p, φ b = some p → (∃ q, ψ b = some q) → upto φ (H i).next b = some p := by
    rintro b p hp ⟨q, hq⟩
    unfold upto
    rw [if_pos (HW.dom b q hq).1]; exact hp
  have hin : ∀ b p, φ b = some p → b < (H i).next → ∃ q, ψ b = some q := by
    intro b p hp hb
    rcases I.new b p hp with h | h
    · exact ⟨p, hle b p h⟩
    · exact hall b h hb
  have lk : ∀ b p, φ b = some p → b < (H i).next → ¬ Early all.length T S (H i) i b → C b = (H i).bl.get b := by
    intro b p hp hb hE
    refine I.link i hi b p hp hb fun j hj hT => ?_
    by_cases hh : (j < i → S j) ∧ (i ≤ j → ¬ S j)
    · exact hh
    · exact absurd ⟨hb, fun hall => hh (hall j hj hT)⟩ hE
  refine ⟨{ dom := fun b p e => ?_, inj := fun b c p q eb ec hEb hEc hb hc hio hpq => ?_, row := fun b p e hE => ?_, fresh := txt.fresh i hi, kind := fun b p c s e' e he => ?_, inp := fun b p e => I.inp b p (upto_some e).2 }, ψ, at', HA, hx⟩
  · obtain ⟨h1, h2⟩ := upto_some e
    exact ⟨h1, (I.dom b p h2).1⟩
  · obtain ⟨h1, h2⟩ := upto_some eb
    obtain ⟨h3, h4⟩ := upto_some ec
    exact I.inj b c p q h2 h4 (by rw [lk b p h2 h1 hEb]; exact hb) (by rw [lk c q h4 h3 hEc]; exact hc) hio hpq
  · obtain ⟨h1, h2⟩ := upto_some e
    have r1 := I.row b p h2
    rw [lk b p h2 h1 hE] at r1
    obtain ⟨q, hq⟩ := hin b p h2 h1
    exact r1.cut hx (HW.row b q hq fun h => h)
  · obtain ⟨h1, h2⟩ := upto_some e
    exact I.kind i hi b p c s e' h2 h1 he
end
end Go.Proofs.Ytkafejncffinmaa

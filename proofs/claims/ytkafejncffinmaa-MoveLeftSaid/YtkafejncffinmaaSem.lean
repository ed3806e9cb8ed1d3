/-
  Types; cells that are read and written: by the machine, and by the model.
-/
import Derived.Test.YtkafejncffinmaaHeap
import Derived.Laws.IdiomCopy
import Derived.ChangeKeysEq
namespace Go.Proofs.Ytkafejncffinmaa
open Go

/-- what a type is, by the program -/
inductive KOk (P : Program) : TK → TypeDesc → Prop
  | int (k : IntKind) : KOk P (.int k) (.int k)
  | bool : KOk P .bool .bool
  | string : KOk P .string .string
  | ptr (e : Nat) : KOk P (.ptr e) (.pointer e)
  | slice (e : Nat) : KOk P (.slice e) (.slice e)
  | arr (n e : Nat) : KOk P (.arr n e) (.array n e)
  | map (k e : Nat) : KOk P (.map k e) (.map k e)
  | struct {fs : List (Nat × Nat × Nat)} {fields : Array Field} (h : fields.toList.map (fun f => (f.offset, P.cellsOf f.type, f.type)) = fs)
      (hi : fields.toList.all (fun f => (P.info? f.type).isSome) = true) : KOk P (.struct fs) (.struct fields)
  | iface (ms : Array (String × TypeId)) : KOk P .iface (.interface ms)
  | func (a b : Array TypeId) (v : Bool) : KOk P .func (.func a b v)
  | other {d : TypeDesc} (h : (match d with | .struct _ | .array _ _ | .interface _ => true | _ => false) = false) : KOk P .other d

/-- a struct that may be held against another: no blank field, no type that is cut or stood in for -/
def fineS (P : Program) (t : Nat) : Bool := match P.underlying t with
  | some (.struct fs) => (fs.all fun f => f.name != "_") && !(P.cutTypes.any (·.2 == t)) && !P.stoodInHeld t
  | _ => true
structure TyOk (P : Program) (t : Nat) (ti : TI) : Prop where
  fine : fineS P t = true
  deep : 8 ≤ P.depth
  info : ∃ i, P.info? t = some i ∧ i.size = ti.size ∧ i.bytes = ti.bytes ∧
    ((ti.zero = [] ∧ 0 < ti.size) ∨ ∃ z, zeroV ti = some z ∧ i.zero = some z ∧ ti.zero.all plainV = true ∧ ti.zero.length = ti.size)
  und : ∃ d, P.underlying t = some d ∧ KOk P ti.k d
  ms : ∀ name f, findM name ti.ms = some f → ∀ v w, (method (P.types.size + Made.depth) t v name).run P w = .ok (f, v) w
def TabOk (P : Program) (ty : TTy) : Prop := ∀ t ti, ty.get t = some ti → TyOk P t ti

section
variable {P : Program} {ty : TTy} {φ : Phi} {E : Nat → Prop} {h h' : Hp} {w : World}

theorem rowOf_ok {b : Nat} {c : VT} {s e : Nat} (hr : rowOf h b = .ok c s e) : h.bl.get b = .cells c s e := by
  unfold rowOf rowB at hr
  split at hr
  · cases hr; assumption
  · cases hr

theorem RelW.rowAt (H : RelW ty φ E h w) {b : Nat} {p : Pl} (hp : φ b = some p) (hE : ¬ E b) {c : VT} {s e : Nat} (hr : rowOf h b = .ok c s e) :
    ∃ cs t fr, w.heap[p.blk]? = some (.cells cs t fr) ∧ RelC ty φ p c s e cs fr := by
  have := H.row b p hp hE
  rw [rowOf_ok hr] at this
  generalize w.heap[p.blk]? = o at this
  cases this with
  | cells h => exact ⟨_, _, _, rfl, h⟩

theorem RelC.lt {p : Pl} {c : VT} {s e : Nat} {cs : Array Value} {fr : Nat × Nat} (R : RelC ty φ p c s e cs fr) {j : Nat} (hj : j < s) : p.off + j < cs.size := by
  have h1 := R.sz; have h2 := R.room; have h3 := R.fits; omega

theorem cell_of {b : Nat} {cs : Array Value} {t : TypeId} {fr : Nat × Nat} (hw : w.heap[b]? = some (.cells cs t fr)) (o : Nat) : w.cell? ⟨b, o, none⟩ = cs[o]? := by
  simp [World.cell?, hw]
theorem frozen_of {b : Nat} {cs : Array Value} {t : TypeId} {fr : Nat × Nat} (hw : w.heap[b]? = some (.cells cs t fr)) (hl : fr.1 = fr.2 ∨ cs.size ≤ fr.1) {o : Nat} (ho : o < cs.size) :
    w.frozen? ⟨b, o, none⟩ = false := by
  obtain ⟨lo, hi⟩ := fr
  simp only [World.frozen?, hw]
  simp only [Bool.and_eq_false_iff, decide_eq_false_iff_not]
  simp only at hl
  omega
theorem RelC.hard {p : Pl} {c : VT} {s e : Nat} {cs : Array Value} {fr : Nat × Nat} (R : RelC ty φ p c s (e + 1) cs fr) : fr.1 = fr.2 ∨ cs.size ≤ fr.1 := by
  rcases R.loose with h | ⟨h, _⟩
  · exact h
  · cases h
theorem RelC.free {p : Pl} {c : VT} {s e : Nat} {cs : Array Value} {fr : Nat × Nat} (R : RelC ty φ p c s e cs fr) {b : Nat} {t : TypeId} (hw : w.heap[b]? = some (.cells cs t fr)) {o : Nat} (h1 : p.off ≤ o) (h2 : o < p.off + p.room) : w.frozen? ⟨b, o, none⟩ = false := by
  rcases R.loose with h | ⟨_, h⟩
  · exact frozen_of hw h (by have := R.fits; omega)
  · have := h o h1 h2
    obtain ⟨lo, hi⟩ := fr
    simp only [World.frozen?, hw]
    simp only [Bool.and_eq_false_iff, decide_eq_false_iff_not]
    simp only at this
    omega
theorem Addr.add_is (b o n : Nat) : (⟨b, o, none⟩ : Addr).add n = ⟨b, o + n, none⟩ := by
  unfold Addr.add; split <;> simp_all

theorem RelA.eq {a a' : Addr} (h : RelA φ a a') : ∃ p, φ a.block = some p ∧ a' = ⟨p.blk, p.off + a.off, none⟩ := by
  obtain ⟨_, hs, p, hp, hb, ho⟩ := h
  cases a'; simp only at hs hb ho; subst hs; subst hb; subst ho
  exact ⟨p, hp, rfl⟩

noncomputable def rowL (c : VT) (off n : Nat) : List Value := (List.range n).map fun j => c.get (off + j)
theorem getN_is (c : VT) (off : Nat) (k : List Value → R) : ∀ (n : Nat) (acc : List Value), getN c off k n acc = k (rowL c off n ++ acc)
  | 0, acc => rfl
  | n + 1, acc => by
    show forceV _ _ = _
    rw [forceV_is, getN_is c off k n]
    simp only [rowL, List.range_succ, List.map_append, List.map_cons, List.map_nil, List.append_assoc, List.singleton_append]
    rfl
theorem rowL_length (c : VT) (off n : Nat) : (rowL c off n).length = n := by simp [rowL]

theorem RelC.list {p : Pl} {c : VT} {s e : Nat} {cs : Array Value} {fr : Nat × Nat} (R : RelC ty φ p c s e cs fr) (off : Nat) : ∀ n, off + n ≤ s →
    ∃ l, RelL φ (rowL c off n) l ∧ ∀ j v, l[j]? = some v → cs[p.off + off + j]? = some v
  | 0, _ => ⟨[], .nil, fun j v hj => by cases hj⟩
  | n + 1, hn => by
    obtain ⟨l, hl, hc⟩ := R.list off n (by omega)
    obtain ⟨v, hv, hr⟩ := R.cell (off + n) (by omega)
    have hlen := hl.length
    rw [rowL_length] at hlen
    refine ⟨l ++ [v], ?_, fun j u hj => ?_⟩
    · have : rowL c off (n + 1) = rowL c off n ++ [c.get (off + n)] := by simp [rowL, List.range_succ]
      rw [this]; exact hl.append (.cons hr .nil)
    · rcases Nat.lt_or_ge j n with hjn | hjn
      · rw [List.getElem?_append_left (by omega)] at hj; exact hc j u hj
      · rw [List.getElem?_append_right (by omega), hlen] at hj
        have : j = n := by
          rcases Nat.eq_or_lt_of_le hjn with h | h
          · exact h.symm
          · rw [List.getElem?_eq_none (by simp; omega)] at hj; cases hj
        subst this
        simp at hj; subst hj
        rw [← hv]; congr 1; omega

/-- one cell -/
theorem load1_ok (H : RelW ty φ E h w) {a a' : Addr} {v : Value} (hr : load1 a h = .ok v h') (ha : RelA φ a a') (hE : ¬ E a.block) :
    h' = h ∧ ∃ v', w.cell? a' = some v' ∧ RelV φ v v' := by
  obtain ⟨p, hp, rfl⟩ := ha.eq
  unfold load1 at hr
  cases hrow : rowOf h a.block with
  | no => rw [hrow] at hr; cases hr
  | ok c s e =>
    obtain ⟨cs, t, fr, hw, R⟩ := H.rowAt hp hE hrow
    rw [hrow] at hr
    simp only at hr
    cases hb : Nat.blt a.off s with
    | false => rw [hb] at hr; cases hr
    | true =>
      rw [hb] at hr
      simp only [forceV_is] at hr
      cases hr
      refine ⟨rfl, ?_⟩
      rw [cell_of hw]
      exact R.cell _ (nat_blt.1 hb)

/-- cells side by side -/
theorem loads_ok (H : RelW ty φ E h w) {a a' : Addr} (ha : RelA φ a a') (hE : ¬ E a.block) {c : VT} {s e n : Nat} (hrow : rowOf h a.block = .ok c s e) (hn : a.off + n ≤ s) :
    ∃ l, RelL φ (rowL c a.off n) l ∧ l.length = n ∧ (∀ w' : World, w'.heap = w.heap → (loadCells a' n).run P w' = .ok l.toArray w') ∧
      ∃ p cs t fr, φ a.block = some p ∧ w.heap[p.blk]? = some (.cells cs t fr) ∧ ∀ (j : Nat) (u : Value), l[j]? = some u → cs[p.off + a.off + j]? = some u := by
  obtain ⟨p, hp, rfl⟩ := ha.eq
  obtain ⟨cs, t, fr, hw, R⟩ := H.rowAt hp hE hrow
  obtain ⟨l, hl, hc⟩ := R.list a.off n hn
  have hlen : l.length = n := by rw [hl.length, rowL_length]
  refine ⟨l, hl, hlen, fun w' hw' => ?_, p, cs, t, fr, hp, hw, hc⟩
  have := run_loadCells_list (P := P) w' ⟨p.blk, p.off + a.off, none⟩ l fun j v hj => by
    rw [Addr.add_is, cell_of (hw'.symm ▸ hw)]; exact hc j v hj
  rw [hlen] at this
  exact this

theorem setAll_get : ∀ (vs : List Value) (c : VT) (i : Nat) (c' : VT), setAll c i vs = some c' →
    ∀ j, c'.get j = if i ≤ j ∧ j < i + vs.length then vs.getD (j - i) undef else c.get j
  | [], c, i, c', hs, j => by
    obtain rfl : c = c' := Option.some.inj hs
    rw [if_neg (by simp)]
  | v :: vs, c, i, c', hs, j => by
    unfold setAll at hs
    cases h1 : c.set i v with
    | none => rw [h1] at hs; cases hs
    | some c1 =>
      rw [h1] at hs
      have ih := setAll_get vs c1 (i + 1) c' hs j
      rw [ih, VT.get_set _ _ _ _ h1 j]
      by_cases hj : j = i
      · subst hj
        rw [if_neg (by omega), if_pos rfl, if_pos (by simp)]; simp
      · by_cases h2 : i + 1 ≤ j ∧ j < i + 1 + vs.length
        · rw [if_pos h2, if_pos (by simp only [List.length_cons]; omega)]
          have : j - i = (j - (i + 1)) + 1 := by omega
          rw [this]; rfl
        · rw [if_neg h2, if_neg hj, if_neg (by simp only [List.length_cons]; omega)]

theorem setCells_heap (b : Nat) (t : TypeId) (fr : Nat × Nat) : ∀ (vs : List Value) (o : Nat) (cs : Array Value) (w : World), w.heap[b]? = some (.cells cs t fr) → o + vs.length ≤ cs.size →
    ∃ cs', (w.setCells b o vs).heap[b]? = some (.cells cs' t fr) ∧ cs'.size = cs.size ∧ (∀ j, cs'[j]? = if o ≤ j ∧ j < o + vs.length then vs[j - o]? else cs[j]?) ∧
      (w.setCells b o vs).heap.size = w.heap.size ∧ (∀ k, k ≠ b → (w.setCells b o vs).heap[k]? = w.heap[k]?) ∧
      (w.setCells b o vs).tape = w.tape ∧ (w.setCells b o vs).os = w.os ∧ (w.setCells b o vs).output = w.output
  | [], o, cs, w, hw, _ => ⟨cs, hw, rfl, fun j => by rw [if_neg (by simp)], rfl, fun _ _ => rfl, rfl, rfl, rfl⟩
  | v :: vs, o, cs, w, hw, hn => by
    simp only [List.length_cons] at hn
    have h1 : (w.setCell ⟨b, o, none⟩ v).heap[b]? = some (.cells (cs.setIfInBounds o v) t fr) := by
      simp [World.setCell, Array.getElem?_modify, hw]
    obtain ⟨cs', e1, e2, e3, e4, e5, e6, e7, e8⟩ := setCells_heap b t fr vs (o + 1) (cs.setIfInBounds o v) _ h1 (by simpa using by omega)
    refine ⟨cs', e1, by simpa using e2, fun j => ?_, ?_, fun k hk => ?_, e6, e7, e8⟩
    · rw [e3]
      by_cases hj : j = o
      · subst hj
        rw [if_neg (by omega), if_pos (by simp)]
        simp [Array.getElem?_setIfInBounds]
        omega
      · by_cases h2 : o + 1 ≤ j ∧ j < o + 1 + vs.length
        · rw [if_pos h2, if_pos (by simp only [List.length_cons]; omega)]
          have : j - o = (j - (o + 1)) + 1 := by omega
          rw [this]; rfl
        · rw [if_neg h2, if_neg (by simp only [List.length_cons]; omega)]
          rw [Array.getElem?_setIfInBounds, if_neg (fun h => hj h.symm)]
    · rw [World.setCells, e4]; simp [World.setCell]
    · rw [World.setCells, e5 k hk]
      simp [World.setCell, Array.getElem?_modify, Ne.symm hk]
end
end Go.Proofs.Ytkafejncffinmaa

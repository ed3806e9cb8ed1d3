/-
  A run whose arguments are handed on, and never looked at.
-/
import Derived.Test.YtkafejncffinmaaRun
set_option linter.unusedVariables false
namespace Go.Proofs.Ytkafejncffinmaa
open Go Go.RowKit Go.WideShapes Go.ChangeShapes

/-- all that came in came in to be read -/
def AllIn (φ : Phi) : Prop := ∀ i p, φ i = some p → i < 256 ∧ p.inp = true
theorem run_args {P : Program} {ty : TTy} {bs : FT} (hC : ∀ n, CallOk P ty (call bs n)) {n f : Nat} {xs args : List Value} {φ : Phi} {w : World} (h : okTrue (call bs n f xs start) = true) (hr : RelL φ xs args)
    (hφ : AllIn φ) (hd : ∀ i p, φ i = some p → p.blk < w.heap.size) : Calls P f ⟨args⟩ w fun e w' => e = .returned (.bool true) ∧ Below w.heap.size w w' := by
  cases hq : call bs n f xs start with
  | no => rw [hq] at h; cases h
  | ok v h' =>
    rw [hq] at h
    obtain ⟨_, hc⟩ := hC n f xs start v h' hq
    have HW : RelW ty φ nil start w := {
      dom := fun i p e => ⟨(hφ i p e).1, hd i p e⟩
      inj := fun i j p q _ _ _ _ hl => absurd (fullT_get 9 i) hl
      row := fun i p _ _ => by show RelB _ _ _ ((fullT 9).get i) _; rw [fullT_get]; exact .dead
      fresh := fun i _ => fullT_get 9 i
      kind := fun i p c s e _ h => by have h : (fullT 9).get i = _ := h; rw [fullT_get] at h; cases h
      inp := fun i p e _ => (hφ i p e).1 }
    refine (hc φ w args hr HW).mono fun e w' ⟨v', ψ, he, hv, _, ev⟩ => ?_
    cases v with
    | bool b =>
      have h : b = true := h
      subst h
      have := hv.bool_inv
      subst this
      exact ⟨he, ⟨ev.os, ev.tape, ev.output, ev.size, fun k hk => ev.frame k hk fun i p hp hn => by rw [(hφ i p hp).2] at hn; cases hn⟩⟩
    | _ => cases h

/-- where a slice that came in lies -/
def sliceAt (b : Nat) (a : Addr) (n c : Nat) : Phi := fun i => if i = b then some { blk := a.block, off := a.off, sz := c, room := c, es := 1, inp := true } else none
theorem slice_rel {a : Addr} {n c : Nat} (hs : a.spot = none) (hn : n ≤ c) (b : Nat) : RelV (sliceAt b a n c) (.slice (some ⟨b, 0, none⟩) n c) (.slice (some a) n c) := by
  refine .slice hn ⟨rfl, hs, _, if_pos rfl, rfl, ?_⟩
  rcases Nat.eq_zero_or_pos c with h | h
  · exact .inr ⟨h, .inl h⟩
  · exact .inl ⟨h, rfl, .inl rfl⟩
theorem slice_arg {P : Program} {W : World} {base t e : Nat} {v : Value} (ht : P.underlying t = some (.slice e)) (h : Value.okWide P W .any base t v) :
    v = .slice none 0 0 ∨ ∃ a n c, v = .slice (some a) n c ∧ n ≤ c ∧ a.spot = none ∧ a.block < W.heap.size := by
  unfold Value.okWide at h
  rw [ht] at h
  simp only at h
  unfold Cell.okWide at h
  rw [ht] at h
  have h : Cell.ok P W .any base t v := by cases v <;> exact h
  unfold Cell.ok at h
  rw [ht] at h
  split at h <;> first | (exact h.elim; done) | skip
  all_goals (rename_i e1 _; cases e1)
  · exact .inl rfl
  · obtain ⟨h1, _, h2⟩ := h
    obtain ⟨_, h3, row, cells, h4, _⟩ := h2
    refine .inr ⟨_, _, _, rfl, h1, h3, ?_⟩
    unfold World.shape? at h4
    split at h4
    · rename_i hb; exact (Array.getElem?_eq_some_iff.1 hb).1
    all_goals first | (cases h4; done) | (rename_i hb; exact (Array.getElem?_eq_some_iff.1 hb).1)
theorem slice_cell {P : Program} {W : World} {base t e : Nat} {v : Value} (ht : P.underlying t = some (.slice e)) (h : Cell.okWide P W .any base t v) :
    v = .slice none 0 0 ∨ ∃ a n c, v = .slice (some a) n c ∧ n ≤ c ∧ a.spot = none ∧ a.block < W.heap.size :=
  slice_arg (base := base) ht (by unfold Value.okWide; rw [ht]; exact h)
theorem int_cell {P : Program} {W : World} {base t : Nat} {k : IntKind} {v : Value} (ht : P.underlying t = some (.int k)) (h : Cell.okWide P W .any base t v) : ∃ n, v = .int k n := by
  unfold Cell.okWide at h
  rw [ht] at h
  have h : Cell.ok P W .any base t v := by cases v <;> exact h
  unfold Cell.ok at h
  rw [ht] at h
  split at h <;> first | (exact h.elim; done) | skip
  all_goals (rename_i e1 _; cases e1)
  exact ⟨_, by rw [h.1]⟩
/-- the cells of a struct by value -/
theorem agg_arg {P : Program} {W : World} {base t : Nat} {v : Value} {fs : Array Field} {ts : List Nat} (ht : P.underlying t = some (.struct fs)) (hts : P.cellTypes P.depth t = some ts) (hn : P.cellsOf t = ts.length) (h : Value.okWide P W .any base t v) :
    ∃ l : List Value, v = .agg ⟨l⟩ ∧ l.length = ts.length ∧ ∀ (i : Nat) (u : Nat) (x : Value), ts[i]? = some u → l[i]? = some x → Cell.okWide P W .any base u x := by
  unfold Value.okWide at h
  rw [ht] at h
  obtain ⟨cs, rfl, hsz, ts', hts', _, hc⟩ := h
  rw [hts] at hts'
  cases hts'
  cases cs with | mk l =>
  refine ⟨l, rfl, by rw [← hn]; exact hsz, fun i u x hu hx => ?_⟩
  obtain ⟨u', h1, h2⟩ := hc i x (by simpa using hx)
  have hi : i < ts.length := (List.getElem?_eq_some_iff.1 hu).1
  rw [Nat.mod_eq_of_lt hi, hu] at h1
  cases h1
  exact h2
end Go.Proofs.Ytkafejncffinmaa

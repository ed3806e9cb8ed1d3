/-
  Rows made of zeros and of parts.
-/
import Derived.Test.YtkafejncffinmaaSlc
set_option linter.unusedSimpArgs false
set_option linter.unusedVariables false
namespace Go.Proofs.Ytkafejncffinmaa
open Go

theorem repL_length {α : Type} (xs : List α) : ∀ n, (repL xs n).length = n * xs.length
  | 0 => by simp [repL]
  | n + 1 => by
    show (xs ++ repL xs n).length = _
    rw [List.length_append, repL_length xs n, Nat.succ_mul, Nat.add_comm]
theorem repL_get {α : Type} (xs : List α) : ∀ n i, i < n * xs.length → (repL xs n)[i]? = xs[i % xs.length]?
  | 0, i, h => by simp at h
  | n + 1, i, h => by
    show (xs ++ repL xs n)[i]? = _
    rcases Nat.lt_or_ge i xs.length with hl | hl
    · rw [List.getElem?_append_left hl, Nat.mod_eq_of_lt hl]
    · have h2 : i - xs.length < n * xs.length := by rw [Nat.succ_mul] at h; omega
      rw [List.getElem?_append_right hl, repL_get xs n _ h2, ← Nat.mod_eq_sub_mod hl]
theorem repL_rel {φ : Phi} {l l' : List Value} (h : RelL φ l l') : ∀ n, RelL φ (repL l n) (repL l' n)
  | 0 => .nil
  | n + 1 => h.append (repL_rel h n)
/-- zeros side by side, in the model's words -/
theorem zeros_is (z : Array Value) (n : Nat) : ((Array.range (n * z.size)).map (fun i => z[i % z.size]!)) = ⟨repL z.toList n⟩ := by
  apply Array.ext'
  apply List.ext_getElem?
  intro i
  simp only [Array.toList_map, List.getElem?_map, Array.toList_range]
  rcases Nat.lt_or_ge i (n * z.size) with h | h
  · have h1 : i < n * z.toList.length := by simpa using h
    rw [repL_get _ _ _ h1, List.getElem?_range h, Option.map_some]
    have h2 : 0 < z.size := by
      rcases Nat.eq_zero_or_pos z.size with h0 | h0
      · rw [h0] at h; simp at h
      · exact h0
    have h3 : i % z.size < z.size := Nat.mod_lt _ h2
    simp [h3]
  · rw [List.getElem?_eq_none (by simpa using h), List.getElem?_eq_none (by rw [repL_length]; simpa using h)]; rfl
theorem zeroCells_is (z : Array Value) (n : Nat) : Builtin.zeroCells z n = ⟨repL z.toList n⟩ := zeros_is z n

theorem lay_is (cs : List Value) (off : Nat) (vs : List Value) : lay cs off vs = cs.take off ++ vs ++ cs.drop (off + vs.length) := by
  unfold lay; rw [takeL_is, dropL_is, lenL_is]; rfl
theorem lay_length {cs : List Value} {off : Nat} {vs : List Value} (h : off + vs.length ≤ cs.length) : (lay cs off vs).length = cs.length := by
  rw [lay_is]; simp; omega
theorem lay_rel {φ : Phi} {cs cs' vs vs' : List Value} (h : RelL φ cs cs') (hv : RelL φ vs vs') (off : Nat) : RelL φ (lay cs off vs) (lay cs' off vs') := by
  rw [lay_is, lay_is, hv.length]
  exact ((h.take off).append hv).append (h.drop _)
theorem foldl_lay (off : Nat) : ∀ (vs : List Value) (j : Nat) (cs : Array Value), off + j + vs.length ≤ cs.size →
    ((vs.zipIdx j).foldl (fun cs (c, j) => cs.setIfInBounds (off + j) c) cs).toList = lay cs.toList (off + j) vs
  | [], j, cs, h => by rw [lay_is]; simp
  | v :: vs, j, cs, h => by
    simp only [List.length_cons] at h
    rw [List.zipIdx_cons, List.foldl_cons]
    have := foldl_lay off vs (j + 1) (cs.setIfInBounds (off + j) v) (by simp; omega)
    rw [this, lay_is, lay_is]
    have hlt : off + j < cs.toList.length := by simp; omega
    rw [Array.toList_setIfInBounds, show off + (j + 1) = off + j + 1 by omega]
    rw [List.length_cons, List.take_set, List.drop_set_of_lt (by omega)]
    have e1 : (cs.toList.take (off + j + 1)).set (off + j) v = cs.toList.take (off + j) ++ [v] := by
      rw [List.take_succ_eq_append_getElem hlt, List.set_append_right _ _ (by simp; omega)]
      have : (off + j - (cs.toList.take (off + j)).length) = 0 := by simp; omega
      rw [this]; rfl
    rw [e1, show off + j + 1 + vs.length = off + j + (vs.length + 1) by omega]
    simp
section
variable {P : Program} {ty : TTy} {φ : Phi} {E : Nat → Prop} {h h' : Hp} {w : World} {F : CallF} {e : Env} {v : Value}

/-- parts, with what they are in the model -/
inductive RelP (φ : Phi) (e : Env) (place : Nat → Option (Nat × Nat)) : List (Nat × Nat × O) → List (Nat × Value) → Prop
  | nil : RelP φ e place [] []
  | cons {i off size : Nat} {o : O} {x : Value} {l : List (Nat × Nat × O)} {l' : List (Nat × Value)} (hp : place i = some (off, size)) (hx : RelV φ (o e) x) (t : RelP φ e place l l') :
      RelP φ e place ((off, size, o) :: l) ((i, x) :: l')

theorem fillL_ok {place : Nat → Option (Nat × Nat)} {k : List Value → R} : ∀ {ps : List (Nat × Nat × O)} {ps' : List (Nat × Value)}, RelP φ e place ps ps' → ∀ {cs cs' : List Value}, RelL φ cs cs' →
    fillL cs e k ps = .ok v h' → ∃ r r', k r = .ok v h' ∧ RelL φ r r' ∧ r.length = cs.length ∧ Instr.fill place ⟨cs'⟩ ps' = some ⟨r'⟩
  | _, _, .nil, cs, cs', hc, hr => by
    unfold fillL at hr
    rw [forceL_is] at hr
    exact ⟨cs, cs', hr, hc, rfl, rfl⟩
  | _, _, .cons (off := off) (size := size) (o := o) (x := x) hp hx t, cs, cs', hc, hr => by
    unfold fillL at hr
    rw [forceV_is] at hr
    obtain ⟨hkn, hr⟩ := bif_ok hr
    obtain ⟨hb1, hr⟩ := bif_ok hr
    obtain ⟨hb2, hr⟩ := bif_ok hr
    have hcl := cells_rel hx hkn
    have h1 := nat_beq.1 hb1
    have h2 := nat_ble.1 hb2
    rw [lenL_is] at h1 h2
    have h3 := hcl.length
    have h4 := hc.length
    obtain ⟨r, r', hk, hrr, hlen, hf⟩ := fillL_ok t (lay_rel hc hcl off) hr
    have h2' : off + size ≤ cs.length := h2
    have hsz : x.cells.size = size := by rw [← h1, ← h3]; simp
    refine ⟨r, r', hk, hrr, by rw [hlen, lay_length (by omega)], ?_⟩
    rw [Instr.fill, hp]
    simp only
    rw [if_neg (by simp [hsz]; omega)]
    have hfold : (x.cells.zipIdx.foldl (fun cs (c, j) => cs.setIfInBounds (off + j) c) (⟨cs'⟩ : Array Value)) = ⟨lay cs' off x.cells.toList⟩ := by
      apply Array.ext'
      have := foldl_lay off x.cells.toList 0 ⟨cs'⟩ (by simp [hsz]; omega)
      rw [← Array.foldl_toList, Array.toList_zipIdx]
      exact this
    rw [hfold]
    exact hf
end
end Go.Proofs.Ytkafejncffinmaa

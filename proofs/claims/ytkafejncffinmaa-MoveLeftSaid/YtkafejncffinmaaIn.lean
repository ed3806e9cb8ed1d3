/-
  Runs upon what came in: rows that the run only reads, each in a block of its own below number 256; what the machine has shown of it holds of every memory and every tape.
-/
import Derived.Test.YtkafejncffinmaaSymL
import Derived.Test.YtkafejncffinmaaArgs
import Derived.ChangeSlices
import Derived.ChangeArms
set_option linter.unusedVariables false
set_option linter.unusedSimpArgs false
namespace Go.Proofs.Ytkafejncffinmaa
open Go Go.RowKit Go.WideShapes Go.ChangeShapes

/-- a run that writes nothing that was there ahead of it -/
theorem run_ext {P : Program} {ty : TTy} {bs : FT} (hC : ∀ n, CallOk P ty (call bs n)) {n f : Nat} {xs args : List Value} {φ : Phi} {w : World} {h0 h' : Hp} (hr : call bs n f xs h0 = .ok (.bool true) h') (x : h0.Ext h') (hl : h0.low = h0.next)
    (ha : RelL φ xs args) (H : RelW ty φ nil h0 w) : Calls P f ⟨args⟩ w fun e w' => e = .returned (.bool true) ∧ Below w.heap.size w w' := by
  obtain ⟨_, hc⟩ := hC n f xs h0 _ h' hr
  refine (hc φ w args ha H).mono fun e w' ⟨v', ψ, he, hv, _, ev⟩ => ?_
  have := hv.bool_inv
  subst this
  refine ⟨he, ⟨ev.os, ev.tape, ev.output, ev.size, fun k hk => ev.frame k hk fun i p hp hn h1 _ _ => ?_⟩⟩
  have h2 := (H.dom i p hp).1
  have h3 := x.low
  omega

/-! ### the machine's heap of rows that came in -/
theorem fullT_has : ∀ (n i : Nat), i + 1 < 2 ^ n → (fullT n).has i
  | 0, i, h => by rw [Nat.pow_zero] at h; omega
  | n + 1, 0, _ => trivial
  | n + 1, k + 1, h => by
    show (BT.nd .dead (fullT n) (fullT n)).has (k + 1)
    rw [BT.has_succ]
    have h1 : k / 2 + 1 < 2 ^ n := by
      have : 2 ^ (n + 1) = 2 * 2 ^ n := by rw [Nat.pow_succ, Nat.mul_comm]
      omega
    split <;> exact fullT_has n _ h1
noncomputable def inRow (L : List Value) : Blk := .cells (ofL L) L.length 0
noncomputable def inB : List (List Value) → Nat → BT → BT
  | [], _, t => t
  | L :: Ls, i, t => inB Ls (i + 1) (t.lay i (inRow L))
theorem inB_is : ∀ (Ls : List (List Value)) (i : Nat) (t : BT), (∀ j, j < 256 → t.has j) → i + Ls.length ≤ 256 →
    (∀ j, j < 256 → (inB Ls i t).has j) ∧ (∀ k L, Ls[k]? = some L → (inB Ls i t).get (i + k) = inRow L) ∧ (∀ j, j < i ∨ i + Ls.length ≤ j → (inB Ls i t).get j = t.get j)
  | [], i, t, ht, _ => ⟨ht, (fun k L h => by cases h), fun _ _ => rfl⟩
  | L :: Ls, i, t, ht, hl => by
    have hl' : i + 1 + Ls.length ≤ 256 := by simp only [List.length_cons] at hl; omega
    have hi : ∀ j, j < i → t.has j := fun j hj => ht j (by omega)
    obtain ⟨a, b, c⟩ := inB_is Ls (i + 1) (t.lay i (inRow L)) (fun j hj => BT.lay_has hi j (.inr (ht j hj))) hl'
    refine ⟨a, fun k M h => ?_, fun j hj => ?_⟩
    · cases k with
      | zero =>
        obtain rfl : L = M := Option.some.inj h
        show (inB Ls (i + 1) (t.lay i (inRow L))).get i = _
        rw [c i (.inl (Nat.lt_succ_self i)), BT.lay_get hi, if_pos rfl]
      | succ k =>
        have := b k M h
        rw [show i + 1 + k = i + (k + 1) by omega] at this
        exact this
    · show (inB Ls (i + 1) (t.lay i (inRow L))).get j = _
      simp only [List.length_cons] at hj
      rw [c j (by omega), BT.lay_get hi, if_neg (by omega)]
/-- rows that came in, ahead of a run -/
noncomputable def inH (Ls : List (List Value)) : Hp := { next := 256, low := 256, high := 0, mark := 256, bl := inB Ls 0 (fullT 9) }
theorem full_has (j : Nat) (hj : j < 256) : (fullT 9).has j := fullT_has 9 j (by omega)
theorem inH_get {Ls : List (List Value)} (hl : Ls.length ≤ 256) {i : Nat} {L : List Value} (h : Ls[i]? = some L) : (inH Ls).bl.get i = inRow L := by
  have := (inB_is Ls 0 (fullT 9) full_has (by omega)).2.1 i L h
  rwa [Nat.zero_add] at this
theorem inH_wf {Ls : List (List Value)} (hl : Ls.length ≤ 256) : (inH Ls).Wf where
  big := Nat.le_refl _
  has := (inB_is Ls 0 (fullT 9) full_has (by omega)).1
  fresh := fun i hi => by
    have hi : 256 ≤ i := hi
    have := (inB_is Ls 0 (fullT 9) full_has (by omega)).2.2 i (.inr (by omega))
    show (inB Ls 0 (fullT 9)).get i = _
    rw [this]; exact fullT_get 9 i
theorem inH_row {Ls : List (List Value)} (hl : Ls.length ≤ 256) {i : Nat} {L : List Value} (h : Ls[i]? = some L) : (inH Ls).Row i 0 L := ⟨ofL L, inH_get hl h, (ofL_is L).2⟩

/-! ### where they lie -/
/-- cells of the model's heap, not frozen -/
def RowAt (W : World) (a : Addr) (L : List Value) : Prop := ∃ cs t fr, W.heap[a.block]? = some (.cells cs t fr) ∧ (∀ j, j < L.length → cs[a.off + j]? = some (L.getD j noRes)) ∧ ∀ j, j < L.length → ¬ (fr.1 ≤ a.off + j ∧ a.off + j < fr.2)
def plAt (a : Addr) (c : Nat) : Pl := { blk := a.block, off := if c = 0 then 0 else a.off, sz := c, room := c, es := 1, inp := true }
def inPhi (ps : List (Option Pl)) : Phi := fun i => (ps[i]?).getD none
theorem plAt_rel {W : World} {ty : TTy} {φ : Phi} {a : Addr} {L L' : List Value} (h : RowAt W a L') (hL : RelL φ L L') : RelB ty φ (plAt a L.length) (inRow L) W.heap[a.block]? := by
  obtain ⟨cs, t, fr, hb, hc, hf⟩ := h
  have hlen : L'.length = L.length := hL.length
  rw [hlen] at hc hf
  rw [hb]
  refine .cells { kind := ⟨rfl, .inl ⟨rfl, rfl, rfl, .inr rfl⟩⟩, room := Nat.le_refl _, fits := ?_, loose := .inr ⟨rfl, fun o h1 h2 => ?_⟩, cell := fun j hj => ?_ }
  · show (if L.length = 0 then 0 else a.off) + L.length ≤ cs.size
    rcases Nat.eq_zero_or_pos L.length with h0 | h0
    · rw [if_pos h0, h0]; exact Nat.zero_le _
    · rw [if_neg (by omega)]
      have := (Array.getElem?_eq_some_iff.1 (hc (L.length - 1) (by omega))).1
      omega
  · have h1 : (if L.length = 0 then 0 else a.off) ≤ o := h1
    have h2 : o < (if L.length = 0 then 0 else a.off) + L.length := h2
    rcases Nat.eq_zero_or_pos L.length with h0 | h0
    · rw [if_pos h0] at h2; omega
    · rw [if_neg (by omega)] at h1 h2
      have := hf (o - a.off) (by omega)
      have e : a.off + (o - a.off) = o := by omega
      rw [e] at this; exact this
  · have h1 := hc j hj
    obtain ⟨v', hv1, hv2⟩ := hL.get j (L.getD j noRes) (by rw [List.getD_eq_getElem?_getD, List.getElem?_eq_getElem hj]; rfl)
    refine ⟨v', ?_, ?_⟩
    · show cs[(if L.length = 0 then 0 else a.off) + j]? = _
      rw [if_neg (by omega), h1, List.getD_eq_getElem?_getD, hv1]; rfl
    · rw [((ofL_is L).2 j hj).2]; exact hv2
theorem RowAt.lt {W : World} {a : Addr} {L : List Value} (h : RowAt W a L) : a.block < W.heap.size := by
  obtain ⟨cs, t, fr, hb, _⟩ := h
  exact (Array.getElem?_eq_some_iff.1 hb).1
/-- the machine's heap of what came in stands to the model's -/
theorem in_rel {W : World} {ty : TTy} {ps : List (Option Pl)} {Ls : List (List Value)} (h256 : Ls.length ≤ 256)
    (h : ∀ i p, inPhi ps i = some p → ∃ a L, p = plAt a L.length ∧ Ls[i]? = some L ∧ a.block < W.heap.size ∧ RelB ty (inPhi ps) (plAt a L.length) (inRow L) W.heap[a.block]?) : RelW ty (inPhi ps) nil (inH Ls) W where
  dom := fun i p e => by
    obtain ⟨a, L, rfl, h1, h2, _⟩ := h i p e
    have h3 := (List.getElem?_eq_some_iff.1 h1).1
    exact ⟨by show i < 256; omega, h2⟩
  inj := fun i j p q h1 h2 _ _ _ _ hor => by
    obtain ⟨a, L, rfl, _⟩ := h i p h1
    obtain ⟨b, M, rfl, _⟩ := h j q h2
    rcases hor with h3 | h3 <;> cases h3
  row := fun i p e _ => by
    obtain ⟨a, L, rfl, h1, _, h3⟩ := h i p e
    rw [inH_get h256 h1]; exact h3
  fresh := (inH_wf h256).fresh
  kind := fun i p c s e hp hc => by
    obtain ⟨a, L, rfl, h1, _, h3⟩ := h i p hp
    rw [inH_get h256 h1] at hc
    have hc : Blk.cells (ofL L) L.length 0 = .cells c s e := hc
    cases hc
    exact ⟨rfl, .inl ⟨rfl, rfl, rfl, .inr rfl⟩⟩
  inp := fun i p e _ => by
    obtain ⟨a, L, rfl, h1, _⟩ := h i p e
    have h3 := (List.getElem?_eq_some_iff.1 h1).1
    omega
theorem slice_in {φ : Phi} {a : Addr} {n c i : Nat} (hs : a.spot = none) (hn : n ≤ c) (hp : φ i = some (plAt a c)) : RelV φ (.slice (some ⟨i, 0, none⟩) n c) (.slice (some a) n c) := by
  refine .slice hn ⟨rfl, hs, _, hp, rfl, ?_⟩
  rcases Nat.eq_zero_or_pos c with h | h
  · exact .inr ⟨h, .inl h⟩
  · refine .inl ⟨h, ?_, .inl rfl⟩
    show a.off = (if c = 0 then 0 else a.off) + 0
    rw [if_neg (by omega), Nat.add_zero]

/-! ### slices of integers that came in -/
def ints (k : IntKind) (Z : List Int) : List Value := Z.map (.int k)
theorem ints_rel (φ : Phi) (k : IntKind) : ∀ Z : List Int, RelL φ (ints k Z) (ints k Z)
  | [] => .nil
  | z :: Z => .cons (.int k z) (ints_rel φ k Z)
def IntsIn (k : IntKind) (W : World) (v : Value) (zs : List Int) : Prop := (v = .slice none 0 0 ∧ zs = []) ∨ ∃ (a : Addr) (n c : Nat) (Z : List Int), v = .slice (some a) n c ∧ n ≤ c ∧ a.spot = none ∧ Z.length = c ∧ zs = Z.take n ∧ RowAt W a (ints k Z)
theorem ints_in {H : Type} {enc : TypeId × Value → H} {P : Program} {t e : TypeId} {k : IntKind} (ht : P.underlying t = some (.slice e)) (he : P.underlying e = some (.int k)) (hc : P.cellsOf e = 1) {W : World} {base fuel : Nat} {v : Value} {x : DataW H × List MemPlace}
    (hval : Cell.okWide P W .any base t v) (hf : DataW.trod enc P W 0 (fun _ => true) true fuel t [v] = some x) (hfz : ∀ b off, MemPlace.cell b off ∈ x.2 → W.frozen? ⟨b, off, none⟩ = false) : ∃ zs : List Int, (∀ z ∈ zs, (Lit.int k z).wf = true) ∧ IntsIn k W v zs := by
  rcases slice_cell ht hval with rfl | ⟨a, n, c, rfl, h1, h2, h3⟩
  · exact ⟨[], (fun x hx => by cases hx), .inl ⟨rfl, rfl⟩⟩
  rcases open_ints ht he hc hf with ⟨hcs, _⟩ | ⟨a', n', c', zs, hcs, _, hl, hm, hz, hx, hcell, hwz⟩
  · simp at hcs
  · simp at hcs
    obtain ⟨rfl, rfl, rfl⟩ := hcs
    simp only [if_true] at hz
    subst hx
    obtain ⟨ab, ao, spot⟩ := a
    simp only at h2
    subst h2
    have hblk : ∃ cs tt fr, W.heap[ab]? = some (.cells cs tt fr) := by
      unfold Cell.okWide at hval
      rw [ht] at hval
      have hval : Cell.ok P W .any base t (.slice (some ⟨ab, ao, none⟩) n c) := hval
      unfold Cell.ok at hval
      rw [ht] at hval
      obtain ⟨_, _, _, _, row, cells, hsh, _⟩ := hval
      unfold World.shape? at hsh
      split at hsh
      · rename_i cs tt fr hb; exact ⟨cs, tt, fr, hb⟩
      all_goals cases hsh
    obtain ⟨cs, tt, fr, hb⟩ := hblk
    have hlen : (ints k zs).length = c := by unfold ints; rw [List.length_map]; exact hz
    refine ⟨zs.take n, fun x hx => hwz x (List.mem_of_mem_take hx), .inr ⟨⟨ab, ao, none⟩, n, c, zs, rfl, h1, rfl, hz, rfl, cs, tt, fr, hb, fun i hi => ?_, fun i hi hh => ?_⟩⟩
    · rw [hlen] at hi
      have h4 := hcell i (by omega)
      rw [Addr.add_is, cell_of hb] at h4
      show cs[ao + i]? = _
      have h5 : i < zs.length := by omega
      rw [h4]
      unfold ints
      rw [List.getD_eq_getElem?_getD, List.getD_eq_getElem?_getD, List.getElem?_map, List.getElem?_eq_getElem h5]; rfl
    · rw [hlen] at hi
      have h6 := hfz ab (ao + i) (by simp only [MemPlace.row, List.mem_map, List.mem_range]; exact ⟨i, by omega, rfl⟩)
      obtain ⟨lo, hi'⟩ := fr
      simp only [World.frozen?, hb] at h6
      simp only at hh
      simp only [Bool.and_eq_false_iff, decide_eq_false_iff_not] at h6
      omega

/-- a slice: what it holds -/
def Hp.Vals (h : Hp) (v : Value) (xs : List Value) : Prop := (v = .slice none 0 0 ∧ xs = []) ∨ ∃ b off c el L, v = .slice (some ⟨b, off, none⟩) xs.length c ∧ h.Row b el L ∧ off + xs.length ≤ L.length ∧ (L.drop off).take xs.length = xs
/-- what is said of a row that came in, or of none -/
def InAt (W : World) (L : List Value) (q : Option Pl) : Prop := q = none ∨ ∃ a, q = some (plAt a L.length) ∧ RowAt W a L
/-- of a slice that came in as row i: the machine's value -/
theorem IntsIn.rel {k : IntKind} {W : World} {v : Value} {zs : List Int} (b : IntsIn k W v zs) (i : Nat) : ∃ (u : Value) (q : Option Pl) (Z : List Int), InAt W (ints k Z) q ∧ (∀ φ : Phi, φ i = q → RelV φ u v) ∧ (∀ h : Hp, h.Row i 0 (ints k Z) → h.Vals u (ints k zs)) := by
  rcases b with ⟨rfl, rfl⟩ | ⟨a, n, c, Z, rfl, hn, hs, hZ, rfl, hr⟩
  · exact ⟨.slice none 0 0, none, [], .inl rfl, fun _ _ => .slice0, fun _ _ => .inl ⟨rfl, rfl⟩⟩
  · have hlen : (ints k Z).length = c := by unfold ints; rw [List.length_map]; exact hZ
    have hlen2 : (ints k (Z.take n)).length = n := by unfold ints; rw [List.length_map, List.length_take]; omega
    refine ⟨.slice (some ⟨i, 0, none⟩) n c, some (plAt a (ints k Z).length), Z, .inr ⟨a, rfl, hr⟩, fun φ hφ => slice_in hs hn (by rw [hφ, hlen]), fun h hrow => .inr ⟨i, 0, c, 0, ints k Z, ?_, hrow, ?_, ?_⟩⟩
    · rw [hlen2]
    · rw [hlen2, hlen]; omega
    · rw [hlen2, List.drop_zero]; unfold ints; rw [List.map_take]
/-- two of them -/
theorem two_rel {W : World} {ty : TTy} {L0 L1 : List Value} {q0 q1 : Option Pl} (h0 : InAt W L0 q0) (h1 : InAt W L1 q1) (r0 : ∀ φ, RelL φ L0 L0) (r1 : ∀ φ, RelL φ L1 L1) : RelW ty (inPhi [q0, q1]) nil (inH [L0, L1]) W := by
  refine in_rel (by show 2 ≤ 256; omega) fun i p e => ?_
  match i, e with
  | 0, e =>
    have e : q0 = some p := e
    rcases h0 with h | ⟨a, ha, hr⟩
    · rw [h] at e; cases e
    · rw [ha] at e; cases e
      exact ⟨a, L0, rfl, rfl, hr.lt, plAt_rel hr (r0 _)⟩
  | 1, e =>
    have e : q1 = some p := e
    rcases h1 with h | ⟨a, ha, hr⟩
    · rw [h] at e; cases e
    · rw [ha] at e; cases e
      exact ⟨a, L1, rfl, rfl, hr.lt, plAt_rel hr (r1 _)⟩
  | n + 2, e => cases e
end Go.Proofs.Ytkafejncffinmaa

/-
  A run whose arguments are handed on, and never looked at.
  Runs upon what came in: rows that the run only reads, each in a block of its own below number 256; what the machine has shown of it holds of every memory and every tape.
  Slices as the values that they hold, rows that the run owns and appends to, a function that is known to answer true as one step: for runs whose values are open.
  Numbers of seven bits to a byte, and a move's bytes: what is written is read, and what is read is what is written.
  A table of types, held against the program by the kernel.
  THE TABLES OF THE CANONICAL MACHINE for this seat: what each type is, and the functions, each in a tree. Printed by program (tables.py).
  THE CANONICAL MACHINE's CODE of this seat's functions, part 0; each is what 'bodyC' makes of the model's. Printed by program (compc.py).
-/
import Derived.Test.YtfeldadhbnmklaaGreatZD
import Derived.ChangeSlices
import Derived.ChangeArms
import Derived.Test.YtfeldadhbnmklaaGreatProg
set_option linter.unusedVariables false
namespace Go.Proofs.YtfeldadhbnmklaaGreat
noncomputable section
open Go Go.RowKit Go.WideShapes Go.ChangeShapes
def sliceAt (b : Nat) (a : Addr) (n c : Nat) : Phi := fun i => if i = b then some { blk := a.block, off := a.off, sz := c, room := c, es := 1, inp := true } else none
theorem Qx {P : Program} {W : World} {base t e : Nat} {v : Value} (ht : P.underlying t = some (.slice e)) (h : Value.okWide P W .any base t v) :
    v = .slice none 0 0 ∨ ∃ a n c, v = .slice (some a) n c ∧ n ≤ c ∧ a.spot = none ∧ a.block < W.heap.size := by
  unfold Value.okWide at h
  rw [ht] at h
  simp only at h
  unfold Cell.okWide at h
  rw [ht] at h
  have h : Cell.ok P W .any base t v := by cases v <;> exact h
  unfold Cell.ok at h
  rw [ht] at h
  split at h <;> first | (exact h.elim; done) | skip
  all_goals (rename_i e1 _; cases e1)
  · exact .inl rfl
  · obtain ⟨h1, _, h2⟩ := h
    obtain ⟨_, h3, row, cells, h4, _⟩ := h2
    refine .inr ⟨_, _, _, rfl, h1, h3, ?_⟩
    unfold World.shape? at h4
    split at h4
    · rename_i hb; exact (Array.getElem?_eq_some_iff.1 hb).1
    all_goals first | (cases h4; done) | (rename_i hb; exact (Array.getElem?_eq_some_iff.1 hb).1)
theorem Ji {P : Program} {W : World} {base t e : Nat} {v : Value} (ht : P.underlying t = some (.slice e)) (h : Cell.okWide P W .any base t v) :
    v = .slice none 0 0 ∨ ∃ a n c, v = .slice (some a) n c ∧ n ≤ c ∧ a.spot = none ∧ a.block < W.heap.size :=
  Qx (base := base) ht (by unfold Value.okWide; rw [ht]; exact h)
theorem G2 {P : Program} {W : World} {base t : Nat} {k : IntKind} {v : Value} (ht : P.underlying t = some (.int k)) (h : Cell.okWide P W .any base t v) : ∃ n, v = .int k n := by
  unfold Cell.okWide at h
  rw [ht] at h
  have h : Cell.ok P W .any base t v := by cases v <;> exact h
  unfold Cell.ok at h
  rw [ht] at h
  split at h <;> first | (exact h.elim; done) | skip
  all_goals (rename_i e1 _; cases e1)
  exact ⟨_, by rw [h.1]⟩
theorem UP {P : Program} {W : World} {base t : Nat} {v : Value} {fs : Array Field} {ts : List Nat} (ht : P.underlying t = some (.struct fs)) (hts : P.cellTypes P.depth t = some ts) (hn : P.cellsOf t = ts.length) (h : Value.okWide P W .any base t v) :
    ∃ l : List Value, v = .agg ⟨l⟩ ∧ l.length = ts.length ∧ ∀ (i : Nat) (u : Nat) (x : Value), ts[i]? = some u → l[i]? = some x → Cell.okWide P W .any base u x := by
  unfold Value.okWide at h
  rw [ht] at h
  obtain ⟨cs, rfl, hsz, ts', hts', _, hc⟩ := h
  rw [hts] at hts'
  cases hts'
  cases cs with | mk l =>
  refine ⟨l, rfl, by rw [← hn]; exact hsz, fun i u x hu hx => ?_⟩
  obtain ⟨u', h1, h2⟩ := hc i x (by simpa using hx)
  have hi : i < ts.length := (List.getElem?_eq_some_iff.1 hu).1
  rw [Nat.mod_eq_of_lt hi, hu] at h1
  cases h1
  exact h2
end
end Go.Proofs.YtfeldadhbnmklaaGreat
set_option linter.unusedVariables false
set_option linter.unusedSimpArgs false
namespace Go.Proofs.YtfeldadhbnmklaaGreat
noncomputable section
open Go Go.RowKit Go.WideShapes Go.ChangeShapes
theorem W6 {P : Program} {ty : TTy} {bs : FT} (hC : ∀ n, CY P ty (call bs n)) {n f : Nat} {xs args : List Value} {φ : Phi} {w : World} {h0 h' : Hp} (hr : call bs n f xs h0 = .ok (.bool true) h') (x : h0.Ext h') (hl : h0.low = h0.next)
    (ha : RelL φ xs args) (H : RelW ty φ nil h0 w) : Calls P f ⟨args⟩ w fun e w' => e = .returned (.bool true) ∧ Below w.heap.size w w' := by
  obtain ⟨_, hc⟩ := hC n f xs h0 _ h' hr
  refine (hc φ w args ha H).mono fun e w' ⟨v', ψ, he, hv, _, ev⟩ => ?_
  have := hv.bool_inv
  subst this
  refine ⟨he, ⟨ev.os, ev.tape, ev.output, ev.size, fun k hk => ev.frame k hk fun i p hp hn h1 _ _ => ?_⟩⟩
  have h2 := (H.dom i p hp).1
  have h3 := x.low
  omega
theorem KE : ∀ (n i : Nat), i + 1 < 2 ^ n → (D2 n).has i
  | 0, i, h => by rw [Nat.pow_zero] at h; omega
  | n + 1, 0, _ => trivial
  | n + 1, k + 1, h => by
    show (BT.nd .dead (D2 n) (D2 n)).has (k + 1)
    rw [BT.has_succ]
    have h1 : k / 2 + 1 < 2 ^ n := by
      have : 2 ^ (n + 1) = 2 * 2 ^ n := by rw [Nat.pow_succ, Nat.mul_comm]
      omega
    split <;> exact KE n _ h1
def H7 (L : List Value) : Blk := .cells (ofL L) L.length 0
def inB : List (List Value) → Nat → BT → BT
  | [], _, t => t
  | L :: Ls, i, t => inB Ls (i + 1) (t.lay i (H7 L))
theorem K9 : ∀ (Ls : List (List Value)) (i : Nat) (t : BT), (∀ j, j < 256 → t.has j) → i + Ls.length ≤ 256 →
    (∀ j, j < 256 → (inB Ls i t).has j) ∧ (∀ k L, Ls[k]? = some L → (inB Ls i t).get (i + k) = H7 L) ∧ (∀ j, j < i ∨ i + Ls.length ≤ j → (inB Ls i t).get j = t.get j)
  | [], i, t, ht, _ => ⟨ht, (fun k L h => by cases h), fun _ _ => rfl⟩
  | L :: Ls, i, t, ht, hl => by
    have hl' : i + 1 + Ls.length ≤ 256 := by simp only [List.length_cons] at hl; omega
    have hi : ∀ j, j < i → t.has j := fun j hj => ht j (by omega)
    obtain ⟨a, b, c⟩ := K9 Ls (i + 1) (t.lay i (H7 L)) (fun j hj => BT.lay_has hi j (.inr (ht j hj))) hl'
    refine ⟨a, fun k M h => ?_, fun j hj => ?_⟩
    · cases k with
      | zero =>
        obtain rfl : L = M := Option.some.inj h
        show (inB Ls (i + 1) (t.lay i (H7 L))).get i = _
        rw [c i (.inl (Nat.lt_succ_self i)), BT.lay_get hi, if_pos rfl]
      | succ k =>
        have := b k M h
        rw [show i + 1 + k = i + (k + 1) by omega] at this
        exact this
    · show (inB Ls (i + 1) (t.lay i (H7 L))).get j = _
      simp only [List.length_cons] at hj
      rw [c j (by omega), BT.lay_get hi, if_neg (by omega)]
def inH (Ls : List (List Value)) : Hp := { next := 256, low := 256, high := 0, mark := 256, bl := inB Ls 0 (D2 9) }
theorem I6 (j : Nat) (hj : j < 256) : (D2 9).has j := KE 9 j (by omega)
theorem LA {Ls : List (List Value)} (hl : Ls.length ≤ 256) {i : Nat} {L : List Value} (h : Ls[i]? = some L) : (inH Ls).bl.get i = H7 L := by
  have := (K9 Ls 0 (D2 9) I6 (by omega)).2.1 i L h
  rwa [Nat.zero_add] at this
theorem ST {Ls : List (List Value)} (hl : Ls.length ≤ 256) : (inH Ls).Wf where
  big := Nat.le_refl _
  has := (K9 Ls 0 (D2 9) I6 (by omega)).1
  fresh := fun i hi => by
    have hi : 256 ≤ i := hi
    have := (K9 Ls 0 (D2 9) I6 (by omega)).2.2 i (.inr (by omega))
    show (inB Ls 0 (D2 9)).get i = _
    rw [this]; exact Hh 9 i
theorem PU {Ls : List (List Value)} (hl : Ls.length ≤ 256) {i : Nat} {L : List Value} (h : Ls[i]? = some L) : (inH Ls).Row i 0 L := ⟨ofL L, LA hl h, (Gb L).2⟩
def Li (W : World) (a : Addr) (L : List Value) : Prop := ∃ cs t fr, W.heap[a.block]? = some (.cells cs t fr) ∧ (∀ j, j < L.length → cs[a.off + j]? = some (L.getD j noRes)) ∧ ∀ j, j < L.length → ¬ (fr.1 ≤ a.off + j ∧ a.off + j < fr.2)
def Qq (a : Addr) (c : Nat) : Pl := { blk := a.block, off := if c = 0 then 0 else a.off, sz := c, room := c, es := 1, inp := true }
def KN (ps : List (Option Pl)) : Phi := fun i => (ps[i]?).getD none
theorem M6 {W : World} {ty : TTy} {φ : Phi} {a : Addr} {L L' : List Value} (h : Li W a L') (hL : RelL φ L L') : RelB ty φ (Qq a L.length) (H7 L) W.heap[a.block]? := by
  obtain ⟨cs, t, fr, hb, hc, hf⟩ := h
  have hlen : L'.length = L.length := hL.length
  rw [hlen] at hc hf
  rw [hb]
  refine .cells { kind := ⟨rfl, .inl ⟨rfl, rfl, rfl, .inr rfl⟩⟩, room := Nat.le_refl _, fits := ?_, loose := .inr ⟨rfl, rfl, fun o h1 h2 => ?_⟩, cell := fun j hj => ?_ }
  · show (if L.length = 0 then 0 else a.off) + L.length ≤ cs.size
    rcases Nat.eq_zero_or_pos L.length with h0 | h0
    · rw [if_pos h0, h0]; exact Nat.zero_le _
    · rw [if_neg (by omega)]
      have := (Array.getElem?_eq_some_iff.1 (hc (L.length - 1) (by omega))).1
      omega
  · have h1 : (if L.length = 0 then 0 else a.off) ≤ o := h1
    have h2 : o < (if L.length = 0 then 0 else a.off) + L.length := h2
    rcases Nat.eq_zero_or_pos L.length with h0 | h0
    · rw [if_pos h0] at h2; omega
    · rw [if_neg (by omega)] at h1 h2
      have := hf (o - a.off) (by omega)
      have e : a.off + (o - a.off) = o := by omega
      rw [e] at this; exact this
  · have h1 := hc j hj
    obtain ⟨v', hv1, hv2⟩ := hL.get j (L.getD j noRes) (by rw [List.getD_eq_getElem?_getD, List.getElem?_eq_getElem hj]; rfl)
    refine ⟨v', ?_, ?_⟩
    · show cs[(if L.length = 0 then 0 else a.off) + j]? = _
      rw [if_neg (by omega), h1, List.getD_eq_getElem?_getD, hv1]; rfl
    · rw [((Gb L).2 j hj).2]; exact hv2
theorem Li.lt {W : World} {a : Addr} {L : List Value} (h : Li W a L) : a.block < W.heap.size := by
  obtain ⟨cs, t, fr, hb, _⟩ := h
  exact (Array.getElem?_eq_some_iff.1 hb).1
theorem ai {W : World} {ty : TTy} {ps : List (Option Pl)} {Ls : List (List Value)} (h256 : Ls.length ≤ 256)
    (h : ∀ i p, KN ps i = some p → ∃ a L, p = Qq a L.length ∧ Ls[i]? = some L ∧ a.block < W.heap.size ∧ RelB ty (KN ps) (Qq a L.length) (H7 L) W.heap[a.block]?) : RelW ty (KN ps) nil (inH Ls) W where
  dom := fun i p e => by
    obtain ⟨a, L, rfl, h1, h2, _⟩ := h i p e
    have h3 := (List.getElem?_eq_some_iff.1 h1).1
    exact ⟨by show i < 256; omega, h2⟩
  inj := fun i j p q h1 h2 _ _ _ _ hor => by
    obtain ⟨a, L, rfl, _⟩ := h i p h1
    obtain ⟨b, M, rfl, _⟩ := h j q h2
    rcases hor with h3 | h3 <;> cases h3
  row := fun i p e _ => by
    obtain ⟨a, L, rfl, h1, _, h3⟩ := h i p e
    rw [LA h256 h1]; exact h3
  fresh := (ST h256).fresh
  kind := fun i p c s e hp hc => by
    obtain ⟨a, L, rfl, h1, _, h3⟩ := h i p hp
    rw [LA h256 h1] at hc
    have hc : Blk.cells (ofL L) L.length 0 = .cells c s e := hc
    cases hc
    exact ⟨rfl, .inl ⟨rfl, rfl, rfl, .inr rfl⟩⟩
  inp := fun i p e _ => by
    obtain ⟨a, L, rfl, h1, _⟩ := h i p e
    have h3 := (List.getElem?_eq_some_iff.1 h1).1
    omega
theorem Td {φ : Phi} {a : Addr} {n c i : Nat} (hs : a.spot = none) (hn : n ≤ c) (hp : φ i = some (Qq a c)) : RelV φ (.slice (some ⟨i, 0, none⟩) n c) (.slice (some a) n c) := by
  refine .slice hn ⟨rfl, hs, _, hp, rfl, ?_⟩
  rcases Nat.eq_zero_or_pos c with h | h
  · exact .inr ⟨h, .inl h⟩
  · refine .inl ⟨h, ?_, .inl rfl⟩
    show a.off = (if c = 0 then 0 else a.off) + 0
    rw [if_neg (by omega), Nat.add_zero]
def Dq (k : IntKind) (Z : List Int) : List Value := Z.map (.int k)
theorem JA (φ : Phi) (k : IntKind) : ∀ Z : List Int, RelL φ (Dq k Z) (Dq k Z)
  | [] => .nil
  | z :: Z => .cons (.int k z) (JA φ k Z)
def Ni (k : IntKind) (W : World) (v : Value) (zs : List Int) : Prop := (v = .slice none 0 0 ∧ zs = []) ∨ ∃ (a : Addr) (n c : Nat) (Z : List Int), v = .slice (some a) n c ∧ n ≤ c ∧ a.spot = none ∧ Z.length = c ∧ zs = Z.take n ∧ Li W a (Dq k Z)
theorem PW {H : Type} {enc : TypeId × Value → H} {P : Program} {t e : TypeId} {k : IntKind} (ht : P.underlying t = some (.slice e)) (he : P.underlying e = some (.int k)) (hc : P.cellsOf e = 1) {W : World} {base fuel : Nat} {v : Value} {x : DataW H × List MemPlace}
    (hval : Cell.okWide P W .any base t v) (hf : DataW.trod enc P W 0 (fun _ => true) true fuel t [v] = some x) (hfz : ∀ b off, MemPlace.cell b off ∈ x.2 → W.frozen? ⟨b, off, none⟩ = false) : ∃ zs : List Int, (∀ z ∈ zs, (Lit.int k z).wf = true) ∧ Ni k W v zs := by
  rcases Ji ht hval with rfl | ⟨a, n, c, rfl, h1, h2, h3⟩
  · exact ⟨[], (fun x hx => by cases hx), .inl ⟨rfl, rfl⟩⟩
  rcases open_ints ht he hc hf with ⟨hcs, _⟩ | ⟨a', n', c', zs, hcs, _, hl, hm, hz, hx, hcell, hwz⟩
  · simp at hcs
  · simp at hcs
    obtain ⟨rfl, rfl, rfl⟩ := hcs
    simp only [if_true] at hz
    subst hx
    obtain ⟨ab, ao, spot⟩ := a
    simp only at h2
    subst h2
    have hblk : ∃ cs tt fr, W.heap[ab]? = some (.cells cs tt fr) := by
      unfold Cell.okWide at hval
      rw [ht] at hval
      have hval : Cell.ok P W .any base t (.slice (some ⟨ab, ao, none⟩) n c) := hval
      unfold Cell.ok at hval
      rw [ht] at hval
      obtain ⟨_, _, _, _, row, cells, hsh, _⟩ := hval
      unfold World.shape? at hsh
      split at hsh
      · rename_i cs tt fr hb; exact ⟨cs, tt, fr, hb⟩
      all_goals cases hsh
    obtain ⟨cs, tt, fr, hb⟩ := hblk
    have hlen : (Dq k zs).length = c := by unfold Dq; rw [List.length_map]; exact hz
    refine ⟨zs.take n, fun x hx => hwz x (List.mem_of_mem_take hx), .inr ⟨⟨ab, ao, none⟩, n, c, zs, rfl, h1, rfl, hz, rfl, cs, tt, fr, hb, fun i hi => ?_, fun i hi hh => ?_⟩⟩
    · rw [hlen] at hi
      have h4 := hcell i (by omega)
      rw [Addr.add_is, Gp hb] at h4
      show cs[ao + i]? = _
      have h5 : i < zs.length := by omega
      rw [h4]
      unfold Dq
      rw [List.getD_eq_getElem?_getD, List.getD_eq_getElem?_getD, List.getElem?_map, List.getElem?_eq_getElem h5]; rfl
    · rw [hlen] at hi
      have h6 := hfz ab (ao + i) (by simp only [MemPlace.row, List.mem_map, List.mem_range]; exact ⟨i, by omega, rfl⟩)
      obtain ⟨lo, hi'⟩ := fr
      simp only [World.frozen?, hb] at h6
      simp only at hh
      simp only [Bool.and_eq_false_iff, decide_eq_false_iff_not] at h6
      omega
def Hp.Vals (h : Hp) (v : Value) (xs : List Value) : Prop := (v = .slice none 0 0 ∧ xs = []) ∨ ∃ b off c el L, v = .slice (some ⟨b, off, none⟩) xs.length c ∧ h.Row b el L ∧ off + xs.length ≤ L.length ∧ (L.drop off).take xs.length = xs
def YA (W : World) (L : List Value) (q : Option Pl) : Prop := q = none ∨ ∃ a, q = some (Qq a L.length) ∧ Li W a L
theorem Ni.rel {k : IntKind} {W : World} {v : Value} {zs : List Int} (b : Ni k W v zs) (i : Nat) : ∃ (u : Value) (q : Option Pl) (Z : List Int), YA W (Dq k Z) q ∧ (∀ φ : Phi, φ i = q → RelV φ u v) ∧ (∀ h : Hp, h.Row i 0 (Dq k Z) → h.Vals u (Dq k zs)) := by
  rcases b with ⟨rfl, rfl⟩ | ⟨a, n, c, Z, rfl, hn, hs, hZ, rfl, hr⟩
  · exact ⟨.slice none 0 0, none, [], .inl rfl, fun _ _ => .slice0, fun _ _ => .inl ⟨rfl, rfl⟩⟩
  · have hlen : (Dq k Z).length = c := by unfold Dq; rw [List.length_map]; exact hZ
    have hlen2 : (Dq k (Z.take n)).length = n := by unfold Dq; rw [List.length_map, List.length_take]; omega
    refine ⟨.slice (some ⟨i, 0, none⟩) n c, some (Qq a (Dq k Z).length), Z, .inr ⟨a, rfl, hr⟩, fun φ hφ => Td hs hn (by rw [hφ, hlen]), fun h hrow => .inr ⟨i, 0, c, 0, Dq k Z, ?_, hrow, ?_, ?_⟩⟩
    · rw [hlen2]
    · rw [hlen2, hlen]; omega
    · rw [hlen2, List.drop_zero]; unfold Dq; rw [List.map_take]
theorem XN {W : World} {ty : TTy} {L0 L1 : List Value} {q0 q1 : Option Pl} (h0 : YA W L0 q0) (h1 : YA W L1 q1) (r0 : ∀ φ, RelL φ L0 L0) (r1 : ∀ φ, RelL φ L1 L1) : RelW ty (KN [q0, q1]) nil (inH [L0, L1]) W := by
  refine ai (by show 2 ≤ 256; omega) fun i p e => ?_
  match i, e with
  | 0, e =>
    have e : q0 = some p := e
    rcases h0 with h | ⟨a, ha, hr⟩
    · rw [h] at e; cases e
    · rw [ha] at e; cases e
      exact ⟨a, L0, rfl, rfl, hr.lt, M6 hr (r0 _)⟩
  | 1, e =>
    have e : q1 = some p := e
    rcases h1 with h | ⟨a, ha, hr⟩
    · rw [h] at e; cases e
    · rw [ha] at e; cases e
      exact ⟨a, L1, rfl, rfl, hr.lt, M6 hr (r1 _)⟩
  | n + 2, e => cases e
end
end Go.Proofs.YtfeldadhbnmklaaGreat
set_option linter.unusedVariables false
set_option linter.unusedSimpArgs false
namespace Go.Proofs.YtfeldadhbnmklaaGreat
noncomputable section
open Go Go.RowKit Go.ChangeShapes
theorem sT : type_of% (And.intro @Ee (And.intro @Rg (And.intro @Fa (And.intro @Bj (And.intro @BI (And.intro @In (And.intro @O3 (And.intro @Lt (And.intro @El (And.intro @SA (And.intro @GR (And.intro @ES (And.intro @Bd (And.intro @Kh (And.intro @DL (And.intro @Dd (And.intro @Bf (And.intro @BN (And.intro @Cz (And.intro @GK @AF)))))))))))))))))))) := And.intro @Ee (And.intro @Rg (And.intro @Fa (And.intro @Bj (And.intro @BI (And.intro @In (And.intro @O3 (And.intro @Lt (And.intro @El (And.intro @SA (And.intro @GR (And.intro @ES (And.intro @Bd (And.intro @Kh (And.intro @DL (And.intro @Dd (And.intro @Bf (And.intro @BN (And.intro @Cz (And.intro @GK @AF)))))))))))))))))))
theorem gD : type_of% (And.intro @Xt (And.intro @KJ (And.intro @KI (And.intro @KH (And.intro @KG (And.intro @H5 (And.intro @NL (And.intro @Mp (And.intro @JX @IA))))))))) := And.intro @Xt (And.intro @KJ (And.intro @KI (And.intro @KH (And.intro @KG (And.intro @H5 (And.intro @NL (And.intro @Mp (And.intro @JX @IA))))))))
section
variable {F : CallF} {e : Env} {h h' : Hp} {x y : O}
theorem Hp.Vals.ext {v : Value} {l : List Value} (b : h.Vals v l) (W : h.Wf) (x : h.Ext h') : h'.Vals v l := by
  rcases b with h1 | ⟨b, off, c, el, L, h1, h2, h3⟩
  · exact .inl h1
  · exact .inr ⟨b, off, c, el, L, h1, h2.ext W x, h3⟩
theorem Hp.Vals.same {v : Value} {l : List Value} (b : h.Vals v l) (hb : h'.bl = h.bl) : h'.Vals v l := by
  rcases b with h1 | ⟨b, off, c, el, L, h1, h2, h3⟩
  · exact .inl h1
  · exact .inr ⟨b, off, c, el, L, h1, h2.same hb, h3⟩
theorem Hp.Vals.src {v : Value} {l : List Value} (b : h.Vals v l) {n : Nat} (hn : n = l.length) (k : List Value → R) : BX h 1 v n k = k l := by
  subst hn
  rcases b with ⟨h1, h2⟩ | ⟨b, off, c, el, L, h1, h2, h3, h4⟩
  · rw [h1, h2]; rfl
  · rw [h1, h2.src h3, h4]
theorem Hp.Vals.shape {v : Value} {l : List Value} (b : h.Vals v l) : ∃ a c, v = .slice a l.length c := by
  rcases b with ⟨h1, h2⟩ | ⟨b, off, c, el, L, h1, h2, h3, h4⟩
  · exact ⟨none, 0, by rw [h1, h2]; rfl⟩
  · exact ⟨_, _, h1⟩
theorem Hp.Vals.len {v : Value} {l : List Value} (b : h.Vals v l) : FS v h = .ok (.int .i64 (l.length : Int)) h := by
  obtain ⟨a, c, rfl⟩ := b.shape; rfl
theorem Hp.Vals.lenV {v : Value} {l : List Value} (b : h.Vals v l) : lenV v = .ok l.length := by
  obtain ⟨a, c, rfl⟩ := b.shape; rfl
theorem Hp.Vals.at {v : Value} {l : List Value} (b : h.Vals v l) {i : Nat} (hi : i < l.length) : ∃ a, D4 1 v (.int .i64 (i : Int)) h = .ok (.pointer (some a)) h ∧ G4 (.pointer (some a)) h = .ok (l.getD i noRes) h := by
  rcases b with ⟨h1, h2⟩ | ⟨b, off, c, el, L, h1, h2, h3, h4⟩
  · rw [h2] at hi; cases hi
  · refine ⟨⟨b, off + i * 1, none⟩, by rw [h1]; exact Et hi, ?_⟩
    rw [A5, h2.load1 (by omega)]
    have := congrArg (fun m => m[i]?) h4
    simp only [List.getElem?_take, List.getElem?_drop, if_pos hi] at this
    rw [List.getD_eq_getElem?_getD, Nat.mul_one, this, List.getD_eq_getElem?_getD]
theorem Hp.Vals.bytes {v : Value} {l : List Nat} (b : h.Vals v (l.map bv)) : h.Bytes v l := by
  rcases b with ⟨h1, h2⟩ | ⟨b, off, c, el, L, h1, h2, h3, h4⟩
  · exact .inl ⟨h1, by cases l with
      | nil => rfl
      | cons a l => cases h2⟩
  · rw [List.length_map] at h1 h3 h4
    exact .inr ⟨b, off, c, el, L, h1, h2, h3, h4⟩
theorem Hp.Vals.cut {v : Value} {l : List Value} (b : h.Vals v l) {n : Nat} (hn : n < l.length) : ∃ o c, v = .slice (some o) l.length c ∧ h.Vals (.slice (some o) n c) (l.take n) := by
  rcases b with ⟨h1, h2⟩ | ⟨b, off, c, el, L, h1, h2, h3, h4⟩
  · rw [h2] at hn; cases hn
  · have hl : (l.take n).length = n := by rw [List.length_take]; omega
    refine ⟨⟨b, off, none⟩, c, h1, .inr ⟨b, off, c, el, L, by rw [hl], h2, by omega, ?_⟩⟩
    rw [hl, ← h4, List.take_take, Nat.min_eq_left (by omega)]
def GE (v : Value) (b : Nat) : Prop := ∃ off n c, v = .slice (some ⟨b, off, none⟩) n c
theorem RY {b : Nat} : ¬ GE (.slice none 0 0) b := fun ⟨_, _, _, h⟩ => by cases h
theorem Ks {b b' n c : Nat} (h : b' ≠ b) : ¬ GE (.slice (some ⟨b, 0, none⟩) n c) b' := fun ⟨_, _, _, e⟩ => by
  injection e with e _ _
  injection e with e
  injection e with e _ _
  exact h e.symm
def Hp.Own (h : Hp) (k en : Nat) (v : Value) (xs : List Value) : Prop := (v = .slice none 0 0 ∧ xs = []) ∨ ∃ b, v = .slice (some ⟨b, 0, none⟩) xs.length xs.length ∧ h.Row b (en + 1) xs ∧ k ≤ b ∧ 256 ≤ b
theorem Hp.Own.vals {k en : Nat} {v : Value} {xs : List Value} (o : h.Own k en v xs) : h.Vals v xs := by
  rcases o with h1 | ⟨b, h1, h2, _⟩
  · exact .inl h1
  · exact .inr ⟨b, 0, _, _, xs, h1, h2, by omega, by rw [List.drop_zero, List.take_length]⟩
theorem Hp.Own.le {k k' en : Nat} {v : Value} {xs : List Value} (o : h.Own k en v xs) (hk : k' ≤ k) : h.Own k' en v xs := by
  rcases o with h1 | ⟨b, h1, h2, h3, h4⟩
  · exact .inl h1
  · exact .inr ⟨b, h1, h2, Nat.le_trans hk h3, h4⟩
theorem Hp.Own.keep {k en : Nat} {v : Value} {xs : List Value} (o : h.Own k en v xs) (hk : ∀ b el L, GE v b → h.Row b el L → h'.Row b el L) : h'.Own k en v xs := by
  rcases o with h1 | ⟨b, h1, h2, h3, h4⟩
  · exact .inl h1
  · exact .inr ⟨b, h1, hk b _ _ ⟨0, _, _, h1⟩ h2, h3, h4⟩
theorem Hp.Own.ext {k en : Nat} {v : Value} {xs : List Value} (o : h.Own k en v xs) (W : h.Wf) (x : h.Ext h') : h'.Own k en v xs := o.keep fun _ _ _ _ r => r.ext W x
theorem Hp.Own.same {k en : Nat} {v : Value} {xs : List Value} (o : h.Own k en v xs) (hb : h'.bl = h.bl) : h'.Own k en v xs := o.keep fun _ _ _ _ r => r.same hb
theorem OZ {h0 : Hp} {eb en k : Nat} {v u : Value} {xs ys : List Value} (x0 : h0.Ext h) (hk : h0.next ≤ k) (hk2 : k ≤ h.next) (o : h.Own k en v xs) (y : h.Vals u ys) (hy : 0 < ys.length) (ha : B6 ys = true) (hm : (xs.length + ys.length + 1) * (eb + 1) ≤ 1099511627776) :
    ∃ h' v', Lk 1 eb en v u h = .ok v' h' ∧ h0.Ext h' ∧ h'.Own k en v' (xs ++ ys) ∧ h'.next = h.next + 1 ∧ ∀ b el L, ¬ GE v b → h.Row b el L → h'.Row b el L ∧ ¬ GE v' b := by
  have W := x0.wf
  rcases o with ⟨rfl, rfl⟩ | ⟨b, rfl, r, hb, hb2⟩
  · obtain ⟨t1, t2⟩ := Gb ys
    refine ⟨h.push (.cells (ofL ys) ys.length (en + 1)), .slice (some ⟨h.next, 0, none⟩) ys.length ys.length, ?_, x0.push _, .inr ⟨h.next, rfl, ⟨ofL ys, by rw [W.push_get, if_pos rfl]; rfl, t2⟩, hk2, W.big⟩, rfl, fun b' el' L' _ r' => ⟨r'.push W _, Ks (by have := r'.lt W; omega)⟩⟩
    unfold Lk EO
    simp only [y.lenV, y.src rfl, Ao, Nat.add_eq, Nat.zero_add]
    have e1 : Nat.ble ys.length 0 = false := by
      cases e : Nat.ble ys.length 0
      · rfl
      · have := Ap.1 e; omega
    have e2 : Nat.ble (Nat.mul (Nat.succ ys.length) (Nat.succ eb)) most = true := Ap.2 (by
      have := hm
      simp only [List.length_nil, Nat.zero_add] at this
      exact this)
    rw [e1]
    simp only [e2, cond_true, ha]
    unfold Gz BX H4
    simp only [List.nil_append, t1]
    unfold EU
    simp only [BD]
    unfold CJ
    rw [Ao, DX W]; rfl
  · obtain ⟨cc, hcc, hl⟩ := r.rowOf
    obtain ⟨t, h2, h3⟩ := Dz ys cc xs xs.length hl (.inr rfl)
    have h3 : t.Is (xs ++ ys) := by
      have e : xs.drop (xs.length + ys.length) = [] := List.drop_of_length_le (by omega)
      rw [e] at h3
      simpa using h3
    have hlen : (xs ++ ys).length = xs.length + ys.length := List.length_append
    have hlt := r.lt W
    have W1 : (h.put b .dead).Wf := W.put hlt _
    have x1 : h0.Ext (h.put b .dead) := x0.put (by omega) hlt _
    refine ⟨(h.put b .dead).push (.cells t (xs.length + ys.length) (en + 1)), .slice (some ⟨h.next, 0, none⟩) (xs.length + ys.length) (xs.length + ys.length), ?_, x1.push _, .inr ⟨h.next, by rw [hlen], ⟨t, by
      have := W1.push_get (.cells t (xs.length + ys.length) (en + 1)) h.next
      rw [this, if_pos (show h.next = (h.put b .dead).next from rfl), hlen], h3⟩, hk2, W.big⟩, rfl, fun b' el' L' hne r' => ?_⟩
    · unfold Lk EO
      simp only [y.lenV, y.src rfl, Ao, Nat.add_eq]
      have e1 : Nat.ble (xs.length + ys.length) xs.length = false := by
        cases e : Nat.ble (xs.length + ys.length) xs.length
        · rfl
        · have := Ap.1 e; omega
      have e2 : Nat.ble (Nat.mul (Nat.succ (xs.length + ys.length)) (Nat.succ eb)) most = true := Ap.2 hm
      rw [e1]
      simp only [e2, cond_true, ha]
      unfold Gz
      have e3 : Nat.beq xs.length (Nat.mul xs.length 1) = true := AZ.2 (Nat.mul_one _).symm
      simp only [hcc, e3, h2]
      unfold EU
      have e4 : J0 0 xs.length 1 xs.length = true := by
        unfold J0
        cases xs.length with
        | zero => rfl
        | succ n => exact AZ.2 (by show 0 + (n + 1) * 1 = n + 1; omega)
      simp only [hcc, BD, Nat.add_eq, Nat.beq_refl, cond_true, e4]
      rw [Ht W hb2 hlt]
      unfold CJ
      rw [Ao, DX W1]; rfl
    · have hne' : b' ≠ b := fun e => hne ⟨0, _, _, by rw [e]⟩
      have hb' : b' < h.next := r'.lt W
      obtain ⟨c', hc', hl'⟩ := r'
      refine ⟨⟨c', ?_, hl'⟩, Ks (by omega)⟩
      rw [W1.push_get, if_neg (by show b' ≠ h.next; omega), W.put_get hlt, if_neg hne', hc']
theorem Dw (W : h.Wf) {g : O} {z v : Value} (hv : g e = v) (hk : known v = true) (h1 : cellsOf v = [v]) : AX 1 [z] [(0, 1, g)] F e h = .ok (.slice (some ⟨h.next, 0, none⟩) 1 1) (h.pushRow 0 [v]) := by
  rw [Cr, BV (hk := by rw [hv]; exact hk), hv, h1, if_pos (show [v].length = 1 from rfl), if_pos (show 0 + 1 ≤ [z].length from Nat.le_refl _), C7, DA W]; rfl
theorem TB (W : h.Wf) {v : Value} : (h.pushRow 0 [v]).Vals (.slice (some ⟨h.next, 0, none⟩) 1 1) [v] := .inr ⟨h.next, 0, 1, 0, [v], rfl, Hp.Row.new W 0 [v], by simp, rfl⟩
theorem F9 {h0 : Hp} {eb en k : Nat} {v : Value} {xs : List Value} {n : Int} {kd : IntKind} (x0 : h0.Ext h) (hk : h0.next ≤ k) (hk2 : k ≤ h.next) (o : h.Own k en v xs) (hm : (xs.length + 2) * (eb + 1) ≤ 1099511627776) :
    ∃ h' v', Lk 1 eb en v (.slice (some ⟨h.next, 0, none⟩) 1 1) (h.pushRow 0 [.int kd n]) = .ok v' h' ∧ h0.Ext h' ∧ h'.Own k en v' (xs ++ [.int kd n]) ∧ h'.next = h.next + 2 ∧ ∀ b el L, ¬ GE v b → h.Row b el L → h'.Row b el L ∧ ¬ GE v' b := by
  have W := x0.wf
  have x1 := x0.pushRow 0 [.int kd n]
  have o1 : (h.pushRow 0 [.int kd n]).Own k en v xs := o.ext W ((Hp.Ext.refl W).pushRow _ _)
  obtain ⟨h', v', a, b, c, d, f⟩ := OZ (eb := eb) x1 hk (Nat.le_succ_of_le hk2) o1 (TB W) (by simp) rfl (by simpa using hm)
  exact ⟨h', v', a, b, c, d, fun b' el L hb r => f b' el L hb (r.push W _)⟩
def Nl (F : CallF) (v : Value) (args : List Value) (h : Hp) : R := match v with
  | .func (.func g) first cap => F g (first.toList ++ (args ++ cap.toList)) h
  | _ => .no
theorem KZ {f : O} {l : List O} : B8 f l F e h = Nl F (f e) (vals e l) h := by
  show (match f e with | .func (.func g) first cap => forceL (vals e l) (fun args => F g (first.toList ++ (args ++ cap.toList)) h) | _ => .no) = _
  unfold Nl
  split <;> simp only [CN]
theorem Jz {g : Nat} {l c args : List Value} : Nl F (.func (.func g) ⟨l⟩ ⟨c⟩) args h = F g (l ++ (args ++ c)) h := rfl
end
def RP (args : List Value) (h : Hp) : R := match args with
  | [] => .ok (.bool true) h
  | _ :: _ => .no
def HX : Body := ⟨[.x (fun _ => RP)], cNo⟩
theorem FI {ty : TTy} {φ : Phi} {E : Nat → Prop} {h : Hp} {w w' : World} (H : RelW ty φ E h w) (hb : Below w.heap.size w w') : RelW ty φ E h w' ∧ Evo φ h w φ h w' :=
  ⟨{ dom := fun i p e => ⟨(H.dom i p e).1, Nat.lt_of_lt_of_le (H.dom i p e).2 hb.size⟩
     inj := H.inj
     row := fun i p e hE => (by rw [hb.block _ (H.dom i p e).2]; exact H.row i p e hE)
     fresh := H.fresh
     kind := H.kind
     inp := H.inp },
   { le := .refl _
     new := fun _ _ e => .inl e
     next := Nat.le_refl _
     size := hb.size
     tape := hb.tape
     os := hb.os
     output := hb.output
     frame := fun k hk _ => hb.block k hk
     back := fun i p e hl _ => ⟨i, p, e, hl, rfl, rfl, .inl rfl⟩
     kept := fun _ _ _ => rfl
     low := Nat.le_refl _
     high := Nat.le_refl _
     shape := fun _ _ => .refl _
     only := fun _ _ _ => rfl
     all := fun _ h1 h2 => absurd h2 (Nat.not_lt.2 h1) }⟩
theorem RC {P : Program} {ty : TTy} {f : Nat} (hS : ∃ fn, P.funcs[f]? = some fn ∧ fn.name ≠ "runtime.NumGoroutine" ∧ fn.body.isNone = false) (hc : ∀ w : World, Calls P f #[] w fun e w' => e = .returned (.bool true) ∧ Below w.heap.size w w') : Ih P ty f HX := fun F args h v h' _ hr => ⟨hS, fun φ w args' hrel H => by
  have hr : RP args h = .ok v h' := hr
  cases args with
  | cons a l => cases hr
  | nil =>
    cases hr
    cases hrel
    exact (hc w).mono fun e w' ⟨he, hb⟩ => ⟨_, φ, he, .bool true, (FI H hb).1, (FI H hb).2⟩⟩
theorem Ip {bs : FT} {n f : Nat} (hb : bs.get f = some HX) {h : Hp} : call bs (Nat.succ n) f [] h = .ok (.bool true) h := by
  rw [BQ hb]; rfl
end
end Go.Proofs.YtfeldadhbnmklaaGreat
set_option linter.unusedVariables false
set_option linter.unusedSimpArgs false
namespace Go.Proofs.YtfeldadhbnmklaaGreat
noncomputable section
open Go
def BC (n : Nat) : List Nat := if h : n < 128 then [n] else (n % 128 + 128) :: BC (n / 128)
termination_by n
decreasing_by exact Nat.div_lt_self (by omega) (by omega)
theorem DM {n : Nat} (h : n < 128) : BC n = [n] := by rw [BC, dif_pos h]
theorem EF {n : Nat} (h : 128 ≤ n) : BC n = (n % 128 + 128) :: BC (n / 128) := by rw [BC, dif_neg (by omega)]
theorem HM : ∀ (n x : Nat), x ∈ BC n → x < 256 := by
  intro n
  induction n using Nat.strongRecOn with
  | _ n ih =>
    intro x hx
    by_cases h : n < 128
    · rw [DM h, List.mem_singleton] at hx
      omega
    · rw [EF (by omega)] at hx
      rcases List.mem_cons.1 hx with rfl | hx
      · omega
      · exact ih (n / 128) (Nat.div_lt_self (by omega) (by omega)) x hx
theorem Hw (n : Nat) : 0 < (BC n).length := by
  by_cases h : n < 128
  · rw [DM h]; exact Nat.one_pos
  · rw [EF (by omega)]; exact Nat.succ_pos _
theorem DC : ∀ (k n : Nat), n < 128 ^ (k + 1) → (BC n).length ≤ k + 1
  | 0, n, h => by
    have h : n < 128 := by simpa using h
    rw [DM h]; exact Nat.le_refl _
  | k + 1, n, h => by
    by_cases h1 : n < 128
    · rw [DM h1]; show 1 ≤ _; omega
    · rw [EF (by omega), List.length_cons]
      have h2 : n < 128 * 128 ^ (k + 1) := by rw [Nat.pow_succ] at h; rw [Nat.mul_comm]; exact h
      have := DC k (n / 128) (Nat.div_lt_of_lt_mul h2)
      omega
theorem Ez {n : Nat} (h : n < 18446744073709551616) : (BC n).length ≤ 10 := DC 9 n (by
  have : (128 : Nat) ^ (9 + 1) = 1180591620717411303424 := by decide
  rw [this]; omega)
def Ds : Nat → Nat → List Nat → Option (Nat × Nat)
  | _, _, [] => none
  | k, acc, c :: r => if (0 < k ∧ c = 0) ∨ (8 < k ∧ 1 < c) then none else if c < 128 then some (acc + c * 2 ^ (7 * k), k + 1) else Ds (k + 1) (acc + c % 128 * 2 ^ (7 * k)) r
theorem HD (k : Nat) : 2 ^ (7 * (k + 1)) = 128 * 2 ^ (7 * k) := by
  rw [show 7 * (k + 1) = 7 + 7 * k by omega, Nat.pow_add, show (2 : Nat) ^ 7 = 128 from rfl]
theorem M7 {k : Nat} (hk : k ≤ 8) : 2 ^ (64 - 7 * k) = 128 * 2 ^ (64 - 7 * (k + 1)) := by
  rw [show 64 - 7 * k = 7 + (64 - 7 * (k + 1)) by omega, Nat.pow_add, show (2 : Nat) ^ 7 = 128 from rfl]
theorem UA : ∀ (n k acc : Nat) (r : List Nat), k ≤ 9 → n < 2 ^ (64 - 7 * k) → (0 < k → n ≠ 0) → Ds k acc (BC n ++ r) = some (acc + n * 2 ^ (7 * k), k + (BC n).length) := by
  intro n
  induction n using Nat.strongRecOn with
  | _ n ih =>
    intro k acc r hk hn h0
    by_cases h : n < 128
    · rw [DM h]
      show Ds k acc (n :: r) = _
      have h1 : ¬ ((0 < k ∧ n = 0) ∨ (8 < k ∧ 1 < n)) := by
        rintro (⟨a, b⟩ | ⟨a, b⟩)
        · exact h0 a b
        · have : k = 9 := by omega
          subst this
          have : n < 2 := hn
          omega
      rw [Ds, if_neg h1, if_pos h]; rfl
    · have hk8 : k ≤ 8 := by
        rcases Nat.lt_or_ge k 9 with h1 | h1
        · omega
        · have : k = 9 := by omega
          subst this
          have : n < 2 := hn
          omega
      rw [EF (by omega)]
      show Ds k acc ((n % 128 + 128) :: (BC (n / 128) ++ r)) = _
      have h1 : ¬ ((0 < k ∧ n % 128 + 128 = 0) ∨ (8 < k ∧ 1 < n % 128 + 128)) := by omega
      have h2 : ¬ n % 128 + 128 < 128 := by omega
      rw [Ds, if_neg h1, if_neg h2]
      have hlt : n / 128 < 2 ^ (64 - 7 * (k + 1)) := by
        rw [M7 hk8] at hn
        exact Nat.div_lt_of_lt_mul hn
      rw [ih (n / 128) (Nat.div_lt_self (by omega) (by omega)) (k + 1) _ r (by omega) hlt (by omega)]
      have e2 : (n % 128 + 128) % 128 = n % 128 := by omega
      have e4 : acc + n % 128 * 2 ^ (7 * k) + n / 128 * (128 * 2 ^ (7 * k)) = acc + n * 2 ^ (7 * k) := by
        have e5 : n * 2 ^ (7 * k) = (128 * (n / 128) + n % 128) * 2 ^ (7 * k) := by rw [Nat.div_add_mod]
        rw [e5, Nat.add_mul, Nat.mul_comm 128 (n / 128), Nat.mul_assoc]; omega
      rw [e2, HD, e4, List.length_cons, show k + 1 + (BC (n / 128)).length = k + ((BC (n / 128)).length + 1) by omega]
theorem Na : ∀ (l : List Nat) (k acc v j : Nat), k ≤ 9 → (∀ x ∈ l, x < 256) → Ds k acc l = some (v, j) → ∃ n r, l = BC n ++ r ∧ v = acc + n * 2 ^ (7 * k) ∧ j = k + (BC n).length ∧ (0 < k → n ≠ 0) ∧ n < 2 ^ (64 - 7 * k)
  | [], k, acc, v, j, _, _, h => by cases h
  | c :: r, k, acc, v, j, hk, hb, h => by
    rw [Ds] at h
    split at h
    · cases h
    · rename_i h1
      split at h
      · rename_i h2
        cases h
        refine ⟨c, r, by rw [DM h2]; rfl, rfl, by rw [DM h2]; rfl, by omega, ?_⟩
        rcases Nat.lt_or_ge k 9 with h3 | h3
        · have h4 : 2 ^ 8 ≤ 2 ^ (64 - 7 * k) := Nat.pow_le_pow_right (by omega) (by omega)
          have h5 : (2 : Nat) ^ 8 = 256 := rfl
          omega
        · have : k = 9 := by omega
          subst this
          show c < 2
          omega
      · rename_i h2
        have hk8 : k ≤ 8 := by omega
        obtain ⟨n, q, rfl, e2, e3, e4, e5⟩ := Na r (k + 1) _ v j (by omega) (fun x hx => hb x (List.mem_cons_of_mem _ hx)) h
        have hc := hb c List.mem_cons_self
        have hn : n ≠ 0 := e4 (Nat.succ_pos k)
        have hi : BC (c % 128 + 128 * n) = c :: BC n := by
          rw [EF (by omega)]
          have a1 : (c % 128 + 128 * n) % 128 + 128 = c := by omega
          have a2 : (c % 128 + 128 * n) / 128 = n := by omega
          rw [a1, a2]
        refine ⟨c % 128 + 128 * n, q, by rw [hi]; rfl, ?_, ?_, fun _ => by omega, ?_⟩
        · have e6 : n * (128 * 2 ^ (7 * k)) = 128 * n * 2 ^ (7 * k) := by rw [← Nat.mul_assoc, Nat.mul_comm n 128]
          rw [e2, HD, Nat.add_mul, e6]; omega
        · rw [e3, hi, List.length_cons]; omega
        · rw [M7 hk8]; omega
theorem bS {v : Nat} (h : v < 18446744073709551616) (r : List Nat) : Ds 0 0 (BC v ++ r) = some (v, (BC v).length) := by
  have := UA v 0 0 r (by omega) h (by omega)
  simpa using this
theorem Ty {l : List Nat} {v j : Nat} (hb : ∀ x ∈ l, x < 256) (h : Ds 0 0 l = some (v, j)) : l = BC v ++ l.drop j ∧ j = (BC v).length ∧ v < 18446744073709551616 := by
  obtain ⟨n, r, e1, e2, e3, _, e5⟩ := Na l 0 0 v j (by omega) hb h
  have hv : v = n := by simpa using e2
  subst hv
  have hj : j = (BC v).length := by simpa using e3
  have e5 : v < 18446744073709551616 := e5
  refine ⟨?_, hj, e5⟩
  subst e1
  rw [hj, List.drop_left]
theorem Tz {l : List Nat} {v j : Nat} (hb : ∀ x ∈ l, x < 256) (h : Ds 0 0 l = some (v, j)) : j ≤ l.length := by
  obtain ⟨e1, e2, _⟩ := Ty hb h
  have := congrArg List.length e1
  rw [List.length_append] at this
  omega
end
end Go.Proofs.YtfeldadhbnmklaaGreat
set_option linter.unusedSimpArgs false
set_option linter.unusedVariables false
namespace Go.Proofs.YtfeldadhbnmklaaGreat
noncomputable section
open Go
def veq : Value → Value → Bool
  | .bool a, .bool b => a == b
  | .int j a, .int k b => EX j k && iEq a b
  | .string a, .string b => bEq a.data.toList b.data.toList
  | .pointer none, .pointer none => true
  | .slice none 0 0, .slice none 0 0 => true
  | .map none, .map none => true
  | .nilFunc, .nilFunc => true
  | .nilIface, .nilIface => true
  | _, _ => false
def leq : List Value → List Value → Bool
  | [], [] => true
  | a :: x, b :: y => veq a b && leq x y
  | _, _ => false
def zeq : Value → Value → Bool
  | .agg a, .agg b => leq a.toList b.toList
  | .agg _, _ => false
  | a, b => veq a b
theorem UD {a b : Value} (h : veq a b = true) : a = b := by
  unfold veq at h
  split at h
  · simpa using h
  · rw [Bool.and_eq_true, Cp] at h
    have h1 := Dh h.1
    rw [h1, eq_of_beq h.2]
  · rw [GP] at h
    rename_i a b
    have e1 := Fb (a := a) (eq_of_beq h)
    have e2 := Fb (a := b) rfl
    exact congrArg Value.string (e1.trans e2.symm)
  all_goals first | rfl | cases h
theorem SZ : ∀ {a b : List Value}, leq a b = true → a = b
  | [], [], _ => rfl
  | x :: a, y :: b, h => by
    have h : (veq x y && leq a b) = true := h
    rw [Bool.and_eq_true] at h
    rw [UD h.1, SZ h.2]
  | [], _ :: _, h => by cases h
  | _ :: _, [], h => by cases h
theorem bT {a b : Value} (h : zeq a b = true) : a = b := by
  unfold zeq at h
  split at h
  · rename_i x y
    have := SZ h
    congr 1
    exact Array.ext' this
  · cases h
  · exact UD h
def VW : List (Nat × Nat × Nat) → List (Nat × Nat × Nat) → Bool
  | [], [] => true
  | (a, b, c) :: x, (d, e, f) :: y => Nat.beq a d && (Nat.beq b e && (Nat.beq c f && VW x y))
  | _, _ => false
theorem O9 : ∀ {x y : List (Nat × Nat × Nat)}, VW x y = true → x = y
  | [], [], _ => rfl
  | (a, b, c) :: x, (d, e, f) :: y, h => by
    have h : (Nat.beq a d && (Nat.beq b e && (Nat.beq c f && VW x y))) = true := h
    simp only [Bool.and_eq_true] at h
    rw [AZ.1 h.1, AZ.1 h.2.1, AZ.1 h.2.2.1, O9 h.2.2.2]
  | [], _ :: _, h => by cases h
  | _ :: _, [], h => by cases h
def SX (P : Program) (k : TK) (d : TypeDesc) : Bool := match k, d with
  | .int a, .int b => EX a b
  | .bool, .bool => true
  | .string, .string => true
  | .ptr a, .pointer b => Nat.beq a b
  | .slice a, .slice b => Nat.beq a b
  | .arr n a, .array m b => Nat.beq n m && Nat.beq a b
  | .map n a, .map m b => Nat.beq n m && Nat.beq a b
  | .struct fs, .struct fields => VW (fields.toList.map fun f => (f.offset, P.cellsOf f.type, f.type)) fs && fields.toList.all fun f => (P.info? f.type).isSome
  | .iface, .interface _ => true
  | .func, .func _ _ _ => true
  | .other, .struct _ => false
  | .other, .array _ _ => false
  | .other, .interface _ => false
  | .other, _ => true
  | _, _ => false
theorem SY {P : Program} {k : TK} {d : TypeDesc} (h : SX P k d = true) : KOk P k d := by
  unfold SX at h
  split at h
  · rw [Dh h]; exact .int _
  · exact .bool
  · exact .string
  · rw [AZ.1 h]; exact .ptr _
  · rw [AZ.1 h]; exact .slice _
  · rw [Bool.and_eq_true] at h
    rw [AZ.1 h.1, AZ.1 h.2]; exact .arr _ _
  · rw [Bool.and_eq_true] at h
    rw [AZ.1 h.1, AZ.1 h.2]; exact .map _ _
  · rw [Bool.and_eq_true] at h
    exact .struct (O9 h.1) h.2
  · exact .iface _
  · exact .func _ _ _
  · cases h
  · cases h
  · cases h
  · rename_i q1 q2 q3
    refine .other ?_
    split
    · rename_i f; exact absurd rfl (q1 f)
    · rename_i n e; exact absurd rfl (q2 n e)
    · rename_i m; exact absurd rfl (q3 m)
    · rfl
  · cases h
def UJ (ti : TI) (z : Option Value) : Bool :=
  (match ti.zero with
    | [] => Nat.blt 0 ti.size
    | _ :: _ => false) ||
  (match zeroV ti, z with
    | some a, some b => zeq a b && (ti.zero.all plainV && Nat.beq (BR ti.zero) ti.size)
    | _, _ => false)
theorem UK {ti : TI} {z : Option Value} (h : UJ ti z = true) : (ti.zero = [] ∧ 0 < ti.size) ∨ ∃ y, zeroV ti = some y ∧ z = some y ∧ ti.zero.all plainV = true ∧ ti.zero.length = ti.size := by
  unfold UJ at h
  rw [Bool.or_eq_true] at h
  rcases h with h | h
  · left
    split at h
    · rename_i hz; exact ⟨hz, A3.1 h⟩
    · cases h
  · right
    split at h
    · rename_i a b ha
      simp only [Bool.and_eq_true] at h
      have h3 := AZ.1 h.2.2
      rw [BD] at h3
      exact ⟨a, ha, by rw [bT h.1], h.2.1, h3⟩
    · cases h
def lr (b : Bool) : TypeDesc → Bool
  | .pointer _ => b
  | _ => not b
def Pd (P : Program) (t : Nat) (name : String) (f : Nat) : Bool := match P.info? t with
  | some i => match i.methods.find? (·.name == name) with
    | some m => match m.path.toList with
      | [] => match m.func with
        | some (g, b) => match P.underlying t with
          | some d => Nat.beq g f && lr b d
          | none => false
        | none => false
      | _ :: _ => false
    | none => false
  | none => false
theorem Sc {P : Program} {t : Nat} {name : String} {f : Nat} (h : Pd P t name f = true) (v : Value) (w : World) : (method (P.types.size + Made.depth) t v name).run P w = .ok (f, v) w := by
  unfold Pd at h
  split at h
  · rename_i i hi
    split at h
    · rename_i m hm
      split at h
      · rename_i hp
        split at h
        · rename_i g b hg
          split at h
          · rename_i d hd
            rw [Bool.and_eq_true] at h
            have e1 := AZ.1 h.1
            subst e1
            have h2 := h.2
            show (method ((P.types.size + 99) + 1) t v name).run P w = _
            unfold method
            simp only [typeInfo, Sem.run_bind, run_program, Result.andThen_ok, hi, Sem.run_pure, hm, hp, follow, hg, receiverAt, underlying, hd]
            cases d with
            | pointer e =>
              have hb : b = true := h2
              subst hb
              simp only [Place.get, Sem.run_bind, Sem.run_pure, Result.andThen_ok]
            | _ =>
              have hb : b = false := by
                have h2 : (!b) = true := h2
                cases b with
                | true => cases h2
                | false => rfl
              subst hb
              simp only [Place.get, Sem.run_bind, Sem.run_pure, Result.andThen_ok]
          · cases h
        · cases h
      · cases h
    · cases h
  · cases h
def Pe (P : Program) (t : Nat) : List (String × Nat) → Bool
  | [] => true
  | x :: l => Pd P t x.1 x.2 && Pe P t l
theorem MW {P : Program} {t : Nat} : ∀ {l : List (String × Nat)}, Pe P t l = true → ∀ name f, findM name l = some f → ∀ v w, (method (P.types.size + Made.depth) t v name).run P w = .ok (f, v) w
  | [], _, name, f, h => by cases h
  | x :: l, hb, name, f, h => by
    have hb : (Pd P t x.1 x.2 && Pe P t l) = true := hb
    rw [Bool.and_eq_true] at hb
    unfold findM at h
    split at h
    · rename_i hn
      cases h
      rw [← eq_of_beq hn]
      exact fun v w => Sc hb.1 v w
    · exact MW hb.2 name f h
def tyB (P : Program) (t : Nat) (ti : TI) : Bool := match P.info? t with
  | some i => match P.underlying t with
    | some d => Nat.beq i.size ti.size && (Nat.beq i.bytes ti.bytes && (UJ ti i.zero && (SX P ti.k d && (fineS P t && Pe P t ti.ms))))
    | none => false
  | none => false
theorem bR {P : Program} (hd : 8 ≤ P.depth) {t : Nat} {ti : TI} (h : tyB P t ti = true) : TyOk P t ti := by
  unfold tyB at h
  split at h
  · rename_i i hi
    split at h
    · rename_i d hu
      simp only [Bool.and_eq_true] at h
      exact ⟨h.2.2.2.2.1, hd, ⟨i, hi, AZ.1 h.1, AZ.1 h.2.1, UK h.2.2.1⟩, ⟨d, hu, SY h.2.2.2.1⟩, MW h.2.2.2.2.2⟩
    · cases h
  · cases h
def iD (P : Program) (t : Nat) : Option TI → Bool
  | some ti => tyB P t ti
  | none => true
def RA (P : Program) : TTy → (Nat → Nat) → Bool
  | .mt, _ => true
  | .nd ti l r, ix => iD P (ix 0) ti && (RA P l (fun k => ix (Nat.succ (Nat.mul 2 k))) && RA P r (fun k => ix (Nat.succ (Nat.succ (Nat.mul 2 k)))))
theorem Jk {P : Program} (hd : 8 ≤ P.depth) : ∀ {t : TTy} {ix : Nat → Nat}, RA P t ix = true → ∀ i ti, t.get i = some ti → TyOk P (ix i) ti
  | .mt, ix, _, i, b, h => by cases h
  | .nd c l r, ix, hb, i, b, h => by
    have hb : (iD P (ix 0) c && (RA P l (fun k => ix (Nat.succ (Nat.mul 2 k))) && RA P r (fun k => ix (Nat.succ (Nat.succ (Nat.mul 2 k)))))) = true := hb
    simp only [Bool.and_eq_true] at hb
    cases i with
    | zero =>
      have h : c = some b := h
      subst h
      exact bR hd hb.1
    | succ k =>
      unfold TTy.get at h
      have e1 : Nat.mod k 2 = k % 2 := rfl
      have e2 : Nat.div k 2 = k / 2 := rfl
      rw [e1, e2] at h
      rcases Nat.mod_two_eq_zero_or_one k with hk | hk
      · rw [hk] at h
        have := Jk hd hb.2.1 (k / 2) b h
        have e : Nat.succ (Nat.mul 2 (k / 2)) = k + 1 := by show 2 * (k / 2) + 1 = k + 1; omega
        simp only [e] at this; exact this
      · rw [hk] at h
        have := Jk hd hb.2.2 (k / 2) b h
        have e : Nat.succ (Nat.succ (Nat.mul 2 (k / 2))) = k + 1 := by show 2 * (k / 2) + 1 + 1 = k + 1; omega
        simp only [e] at this; exact this
theorem bP {P : Program} {ty : TTy} (hd : Nat.ble 8 P.depth = true) (h : RA P ty (fun k => k) = true) : CL P ty := fun t ti ht => Jk (Ap.1 hd) h t ti ht
end
end Go.Proofs.YtfeldadhbnmklaaGreat
namespace Go.Proofs.YtfeldadhbnmklaaGreat
noncomputable section
open Go
def ty0 : TI := ⟨.other, 1, 0, [], []⟩
def ty1 : TI := ⟨.func, 1, 8, [.nilFunc], []⟩
def ty2 : TI := ⟨.int .i64, 1, 8, [.int .i64 0], []⟩
def ty3 : TI := ⟨.int .i64, 1, 8, [.int .i64 0], []⟩
def ty4 : TI := ⟨.bool, 1, 1, [.bool false], []⟩
def ty5 : TI := ⟨.int .u8, 1, 1, [.int .u8 0], []⟩
def ty6 : TI := ⟨.int .u8, 1, 1, [.int .u8 0], []⟩
def ty7 : TI := ⟨.struct [(0, 1, 2), (1, 1, 3), (2, 1, 4), (3, 1, 6)], 4, 24, [.int .i64 0, .int .i64 0, .bool false, .int .u8 0], []⟩
def ty9 : TI := ⟨.string, 1, 16, [.string .empty], []⟩
def pP : TI := ⟨.string, 1, 16, [.string .empty], [("Error", 123), ("RuntimeError", 124)]⟩
def pQ : TI := ⟨.string, 1, 16, [.string .empty], [("Error", 125), ("RuntimeError", 126)]⟩
def pR : TI := ⟨.int .u64, 1, 8, [.int .u64 0], []⟩
def pS : TI := ⟨.ptr 149, 1, 8, [.pointer none], [("Error", 129), ("RuntimeError", 130)]⟩
def pT : TI := ⟨.ptr 152, 1, 8, [.pointer none], [("Error", 131), ("RuntimeError", 132)]⟩
def pU : TI := ⟨.ptr 160, 1, 8, [.pointer none], [("Align", 133)]⟩
def pV : TI := ⟨.iface, 1, 16, [.nilIface], []⟩
def pW : TI := ⟨.int .i32, 1, 4, [.int .i32 0], []⟩
def pX : TI := ⟨.int .u8, 1, 1, [.int .u8 0], []⟩
def HL : TI := ⟨.slice 5, 1, 24, [.slice none 0 0], []⟩
def pY : TI := ⟨.struct [(0, 1, 3), (1, 1, 3), (2, 1, 3), (3, 1, 22), (4, 1, 23)], 5, 56, [.int .i64 0, .int .i64 0, .int .i64 0, .int .u8 0, .slice none 0 0], []⟩
def Cv : TI := ⟨.struct [(0, 1, 3), (1, 1, 3), (2, 1, 3), (3, 1, 22), (4, 1, 23)], 5, 56, [.int .i64 0, .int .i64 0, .int .i64 0, .int .u8 0, .slice none 0 0], []⟩
def pZ : TI := ⟨.func, 1, 8, [.nilFunc], []⟩
def pd : TI := ⟨.int .u32, 1, 4, [.int .u32 0], []⟩
def pf : TI := ⟨.arr 256 27, 256, 1024, A6 [.int .u32 0] 256, []⟩
def Ld : TI := ⟨.arr 256 27, 256, 1024, A6 [.int .u32 0] 256, []⟩
def pg : TI := ⟨.func, 1, 8, [.nilFunc], []⟩
def ph : TI := ⟨.int .i64, 1, 8, [.int .i64 0], []⟩
def pi : TI := ⟨.other, 1, 0, [], []⟩
def pj : TI := ⟨.func, 1, 8, [.nilFunc], []⟩
def Jm : TI := ⟨.ptr 29, 1, 8, [.pointer none], []⟩
def pk : TI := ⟨.func, 1, 8, [.nilFunc], []⟩
def pl : TI := ⟨.func, 1, 8, [.nilFunc], []⟩
def pm : TI := ⟨.slice 23, 1, 24, [.slice none 0 0], []⟩
def pn : TI := ⟨.other, 1, 0, [], []⟩
def po : TI := ⟨.func, 1, 8, [.nilFunc], []⟩
def pp : TI := ⟨.func, 1, 8, [.nilFunc], []⟩
def pq : TI := ⟨.func, 1, 8, [.nilFunc], []⟩
def bQ : TI := ⟨.ptr 71, 1, 8, [.pointer none], [("Arm", 136), ("Down", 38), ("Flush", 80), ("Read", 67), ("Size", 37), ("Write", 79), ("cooperage/disk.none", 66), ("cooperage/disk.operation", 99), ("cooperage/disk.there", 87)]⟩
def pu : TI := ⟨.other, 1, 0, [], []⟩
def pw : TI := ⟨.func, 1, 8, [.nilFunc], []⟩
def RD : TI := ⟨.ptr 75, 1, 8, [.pointer none], [("Abort", 20), ("All", 21), ("Bad", 22), ("Commit", 18), ("Now", 59), ("Prepare", 17), ("Room", 16), ("cooperage/slots.all", 55), ("cooperage/slots.at", 54), ("cooperage/slots.find", 50), ("cooperage/slots.gone", 58), ("cooperage/slots.look", 39), ("cooperage/slots.now", 82), ("cooperage/slots.out", 60), ("cooperage/slots.read", 69), ("cooperage/slots.stale", 52), ("cooperage/slots.strike", 47), ("cooperage/slots.up", 48), ("cooperage/slots.write", 53)]⟩
def px : TI := ⟨.other, 1, 0, [], []⟩
def py : TI := ⟨.func, 1, 8, [.nilFunc], []⟩
def pz : TI := ⟨.func, 1, 8, [.nilFunc], []⟩
def qA : TI := ⟨.func, 1, 8, [.nilFunc], []⟩
def qC : TI := ⟨.func, 1, 8, [.nilFunc], []⟩
def qD : TI := ⟨.func, 1, 8, [.nilFunc], []⟩
def qE : TI := ⟨.slice 25, 1, 24, [.slice none 0 0], []⟩
def qF : TI := ⟨.func, 1, 8, [.nilFunc], []⟩
def qG : TI := ⟨.func, 1, 8, [.nilFunc], []⟩
def qH : TI := ⟨.func, 1, 8, [.nilFunc], []⟩
def Jn : TI := ⟨.int .u64, 1, 8, [.int .u64 0], []⟩
def qI : TI := ⟨.func, 1, 8, [.nilFunc], []⟩
def qJ : TI := ⟨.slice 56, 1, 24, [.slice none 0 0], []⟩
def qK : TI := ⟨.func, 1, 8, [.nilFunc], []⟩
def qL : TI := ⟨.func, 1, 8, [.nilFunc], []⟩
def qM : TI := ⟨.func, 1, 8, [.nilFunc], []⟩
def qN : TI := ⟨.func, 1, 8, [.nilFunc], []⟩
def qO : TI := ⟨.arr 6 56, 6, 48, A6 [.int .u64 0] 6, []⟩
def qP : TI := ⟨.other, 1, 0, [], []⟩
def qQ : TI := ⟨.func, 1, 8, [.nilFunc], []⟩
def qR : TI := ⟨.func, 1, 8, [.nilFunc], []⟩
def qS : TI := ⟨.func, 1, 8, [.nilFunc], []⟩
def qT : TI := ⟨.slice 116, 1, 24, [.slice none 0 0], []⟩
def hR : TI := ⟨.map 3 116, 1, 8, [.map none], []⟩
def qU : TI := ⟨.struct [(0, 1, 68), (1, 1, 69), (2, 1, 3), (3, 1, 4)], 4, 48, [.slice none 0 0, .map none, .int .i64 0, .bool false], []⟩
def hU : TI := ⟨.struct [(0, 1, 68), (1, 1, 69), (2, 1, 3), (3, 1, 4)], 4, 48, [.slice none 0 0, .map none, .int .i64 0, .bool false], []⟩
def iA : TI := ⟨.slice 77, 1, 24, [.slice none 0 0], []⟩
def iB : TI := ⟨.slice 3, 1, 24, [.slice none 0 0], []⟩
def qV : TI := ⟨.struct [(0, 1, 42), (1, 1, 34), (2, 1, 3), (3, 1, 72), (4, 1, 73), (5, 1, 3), (6, 1, 4)], 7, 88, [.pointer none, .pointer none, .int .i64 0, .slice none 0 0, .slice none 0 0, .int .i64 0, .bool false], []⟩
def iC : TI := ⟨.struct [(0, 1, 42), (1, 1, 34), (2, 1, 3), (3, 1, 72), (4, 1, 73), (5, 1, 3), (6, 1, 4)], 7, 88, [.pointer none, .pointer none, .int .i64 0, .slice none 0 0, .slice none 0 0, .int .i64 0, .bool false], []⟩
def qW : TI := ⟨.struct [(0, 5, 25), (5, 1, 3)], 6, 64, [.int .i64 0, .int .i64 0, .int .i64 0, .int .u8 0, .slice none 0 0, .int .i64 0], []⟩
def IL : TI := ⟨.struct [(0, 5, 25), (5, 1, 3)], 6, 64, [.int .i64 0, .int .i64 0, .int .i64 0, .int .u8 0, .slice none 0 0, .int .i64 0], []⟩
def qX : TI := ⟨.other, 1, 0, [], []⟩
def qY : TI := ⟨.func, 1, 8, [.nilFunc], []⟩
def qZ : TI := ⟨.func, 1, 8, [.nilFunc], []⟩
def qa : TI := ⟨.func, 1, 8, [.nilFunc], []⟩
def qc : TI := ⟨.func, 1, 8, [.nilFunc], []⟩
def qd : TI := ⟨.func, 1, 8, [.nilFunc], []⟩
def qe : TI := ⟨.func, 1, 8, [.nilFunc], []⟩
def qf : TI := ⟨.func, 1, 8, [.nilFunc], []⟩
def qg : TI := ⟨.func, 1, 8, [.nilFunc], []⟩
def qh : TI := ⟨.func, 1, 8, [.nilFunc], []⟩
def Tx : TI := ⟨.func, 1, 8, [.nilFunc], []⟩
def qi : TI := ⟨.func, 1, 8, [.nilFunc], []⟩
def qj : TI := ⟨.func, 1, 8, [.nilFunc], []⟩
def qk : TI := ⟨.func, 1, 8, [.nilFunc], []⟩
def ql : TI := ⟨.slice 88, 1, 24, [.slice none 0 0], []⟩
def qm : TI := ⟨.func, 1, 8, [.nilFunc], []⟩
def qn : TI := ⟨.func, 1, 8, [.nilFunc], []⟩
def qo : TI := ⟨.func, 1, 8, [.nilFunc], []⟩
def qp : TI := ⟨.other, 1, 0, [], []⟩
def qq : TI := ⟨.func, 1, 8, [.nilFunc], []⟩
def qr : TI := ⟨.func, 1, 8, [.nilFunc], []⟩
def qs : TI := ⟨.func, 1, 8, [.nilFunc], []⟩
def fq : TI := ⟨.int .u64, 1, 8, [.int .u64 0], []⟩
def fu : TI := ⟨.func, 1, 8, [.nilFunc], []⟩
def fv : TI := ⟨.func, 1, 8, [.nilFunc], []⟩
def fw : TI := ⟨.func, 1, 8, [.nilFunc], []⟩
def fz : TI := ⟨.func, 1, 8, [.nilFunc], []⟩
def f0 : TI := ⟨.func, 1, 8, [.nilFunc], []⟩
def gA : TI := ⟨.func, 1, 8, [.nilFunc], []⟩
def gB : TI := ⟨.func, 1, 8, [.nilFunc], []⟩
def gC : TI := ⟨.func, 1, 8, [.nilFunc], []⟩
def gE : TI := ⟨.func, 1, 8, [.nilFunc], []⟩
def gF : TI := ⟨.func, 1, 8, [.nilFunc], []⟩
def gG : TI := ⟨.func, 1, 8, [.nilFunc], []⟩
def gH : TI := ⟨.func, 1, 8, [.nilFunc], []⟩
def gI : TI := ⟨.func, 1, 8, [.nilFunc], []⟩
def gJ : TI := ⟨.func, 1, 8, [.nilFunc], []⟩
def gK : TI := ⟨.arr 64 5, 64, 64, A6 [.int .u8 0] 64, []⟩
def Tw : TI := ⟨.arr 64 5, 64, 64, A6 [.int .u8 0] 64, []⟩
def gL : TI := ⟨.other, 1, 0, [], []⟩
def gM : TI := ⟨.func, 1, 8, [.nilFunc], []⟩
def gN : TI := ⟨.int .i64, 1, 8, [.int .i64 0], []⟩
def gO : TI := ⟨.other, 1, 0, [], []⟩
def gP : TI := ⟨.func, 1, 8, [.nilFunc], []⟩
def gQ : TI := ⟨.func, 1, 8, [.nilFunc], []⟩
def gR : TI := ⟨.func, 1, 8, [.nilFunc], []⟩
def gS : TI := ⟨.other, 1, 0, [], []⟩
def gT : TI := ⟨.func, 1, 8, [.nilFunc], []⟩
def gU : TI := ⟨.func, 1, 8, [.nilFunc], []⟩
def gV : TI := ⟨.func, 1, 8, [.nilFunc], []⟩
def gW : TI := ⟨.func, 1, 8, [.nilFunc], []⟩
def gX : TI := ⟨.int .u64, 1, 8, [.int .u64 0], []⟩
def gY : TI := ⟨.func, 1, 8, [.nilFunc], []⟩
def gZ : TI := ⟨.func, 1, 8, [.nilFunc], []⟩
def ga : TI := ⟨.func, 1, 8, [.nilFunc], []⟩
def gb : TI := ⟨.ptr 3, 1, 8, [.pointer none], []⟩
def gc : TI := ⟨.func, 1, 8, [.nilFunc], []⟩
def gd : TI := ⟨.func, 1, 8, [.nilFunc], []⟩
def ge : TI := ⟨.func, 1, 8, [.nilFunc], []⟩
def gf : TI := ⟨.func, 1, 8, [.nilFunc], []⟩
def gh : TI := ⟨.func, 1, 8, [.nilFunc], []⟩
def gi : TI := ⟨.func, 1, 8, [.nilFunc], []⟩
def gj : TI := ⟨.func, 1, 8, [.nilFunc], []⟩
def gk : TI := ⟨.ptr 129, 1, 8, [.pointer none], [("Next", 104)]⟩
def gm : TI := ⟨.other, 1, 0, [], []⟩
def gn : TI := ⟨.func, 1, 8, [.nilFunc], []⟩
def gp : TI := ⟨.func, 1, 8, [.nilFunc], []⟩
def gq : TI := ⟨.func, 1, 8, [.nilFunc], []⟩
def gt : TI := ⟨.func, 1, 8, [.nilFunc], []⟩
def gu : TI := ⟨.func, 1, 8, [.nilFunc], []⟩
def gv : TI := ⟨.arr 0 16, 0, 0, [], []⟩
def gx : TI := ⟨.int .u8, 1, 1, [.int .u8 0], []⟩
def gy : TI := ⟨.int .u8, 1, 1, [.int .u8 0], [("String", 137)]⟩
def gz : TI := ⟨.func, 1, 8, [.nilFunc], []⟩
def hH : TI := ⟨.ptr 5, 1, 8, [.pointer none], []⟩
def hI : TI := ⟨.int .i32, 1, 4, [.int .i32 0], []⟩
def hJ : TI := ⟨.int .i32, 1, 4, [.int .i32 0], []⟩
def hM : TI := ⟨.func, 1, 8, [.nilFunc], []⟩
def hO : TI := ⟨.other, 1, 8, [.pointer none], []⟩
set_option maxRecDepth 100000 in
def ty : TTy := (.nd (some ty0) (.nd (some ty1) (.nd (some ty3) (.nd (some ty7) (.nd (some pS) (.nd (some ph) (.nd (some qO) (.nd (some gV) .mt .mt) .mt) (.nd (some qo) (.nd none .mt .mt) .mt)) (.nd (some py) (.nd (some qY) (.nd (some gn) .mt .mt) .mt) (.nd (some gG) .mt .mt))) (.nd (some HL) (.nd (some po) (.nd (some hU) (.nd (some gd) .mt .mt) .mt) (.nd (some fw) .mt .mt)) (.nd (some qH) (.nd (some qh) (.nd none .mt .mt) .mt) (.nd (some gN) .mt .mt)))) (.nd (some pQ) (.nd none (.nd (some pk) (.nd (some qS) (.nd (some gZ) .mt .mt) .mt) (.nd (some qs) .mt .mt)) (.nd (some qD) (.nd (some qd) (.nd (some gu) .mt .mt) .mt) (.nd (some gK) .mt .mt))) (.nd (some pd) (.nd (some pu) (.nd (some iC) (.nd (some gi) .mt .mt) .mt) (.nd (some gB) .mt .mt)) (.nd (some qK) (.nd (some qk) (.nd (some gz) .mt .mt) .mt) (.nd (some gR) .mt .mt))))) (.nd (some ty5) (.nd (some ty9) (.nd (some pU) (.nd (some pj) (.nd (some qQ) (.nd (some gX) .mt .mt) .mt) (.nd (some qq) (.nd (some hM) .mt .mt) .mt)) (.nd (some qA) (.nd (some qa) (.nd (some gq) .mt .mt) .mt) (.nd (some gI) .mt .mt))) (.nd (some Cv) (.nd (some pq) (.nd (some iB) (.nd (some gf) .mt .mt) .mt) (.nd (some f0) .mt .mt)) (.nd (some qI) (.nd (some qi) (.nd (some gx) .mt .mt) .mt) (.nd (some gP) .mt .mt)))) (.nd none (.nd (some pW) (.nd (some pm) (.nd (some hR) (.nd (some gb) .mt .mt) .mt) (.nd (some fu) .mt .mt)) (.nd (some qF) (.nd (some qf) (.nd none .mt .mt) .mt) (.nd (some gL) .mt .mt))) (.nd (some Ld) (.nd (some RD) (.nd (some IL) (.nd (some gk) .mt .mt) .mt) (.nd (some gE) .mt .mt)) (.nd (some qM) (.nd (some qm) (.nd (some hI) .mt .mt) .mt) (.nd (some gT) .mt .mt)))))) (.nd (some ty2) (.nd (some ty4) (.nd none (.nd (some pT) (.nd (some pi) (.nd (some qP) (.nd (some gW) .mt .mt) .mt) (.nd (some qp) (.nd none .mt .mt) .mt)) (.nd (some pz) (.nd (some qZ) (.nd (some gp) .mt .mt) .mt) (.nd (some gH) .mt .mt))) (.nd (some pY) (.nd (some pp) (.nd (some iA) (.nd (some ge) .mt .mt) .mt) (.nd (some fz) .mt .mt)) (.nd (some Jn) (.nd (some Tx) (.nd none .mt .mt) .mt) (.nd (some gO) .mt .mt)))) (.nd (some pR) (.nd (some pV) (.nd (some pl) (.nd (some qT) (.nd (some ga) .mt .mt) .mt) (.nd (some fq) .mt .mt)) (.nd (some qE) (.nd (some qe) (.nd none .mt .mt) .mt) (.nd (some Tw) .mt .mt))) (.nd (some pf) (.nd (some pw) (.nd (some qW) (.nd (some gj) .mt .mt) .mt) (.nd (some gC) .mt .mt)) (.nd (some qL) (.nd (some ql) (.nd (some hH) .mt .mt) .mt) (.nd (some gS) .mt .mt))))) (.nd (some ty6) (.nd (some pP) (.nd none (.nd (some Jm) (.nd (some qR) (.nd (some gY) .mt .mt) .mt) (.nd (some qr) (.nd (some hO) .mt .mt) .mt)) (.nd (some qC) (.nd (some qc) (.nd (some gt) .mt .mt) .mt) (.nd (some gJ) .mt .mt))) (.nd (some pZ) (.nd (some bQ) (.nd (some qV) (.nd (some gh) .mt .mt) .mt) (.nd (some gA) .mt .mt)) (.nd (some qJ) (.nd (some qj) (.nd (some gy) .mt .mt) .mt) (.nd (some gQ) .mt .mt)))) (.nd none (.nd (some pX) (.nd (some pn) (.nd (some qU) (.nd (some gc) .mt .mt) .mt) (.nd (some fv) .mt .mt)) (.nd (some qG) (.nd (some qg) (.nd (some gv) .mt .mt) .mt) (.nd (some gM) .mt .mt))) (.nd (some pg) (.nd (some px) (.nd (some qX) (.nd (some gm) .mt .mt) .mt) (.nd (some gF) .mt .mt)) (.nd (some qN) (.nd (some qn) (.nd (some hJ) .mt .mt) .mt) (.nd (some gU) .mt .mt)))))))
end
end Go.Proofs.YtfeldadhbnmklaaGreat
namespace Go.Proofs.YtfeldadhbnmklaaGreat
noncomputable section
open Go
set_option maxRecDepth 100000 in
def zt3 : VT := (.nd (.int .i64 0) .mt .mt)
set_option maxRecDepth 100000 in
def qv : VT := (.nd (.slice none 0 0) .mt .mt)
set_option maxRecDepth 100000 in
def Bx : VT := (.nd (.int .i64 0) (.nd (.int .i64 0) (.nd (.int .u8 0) .mt .mt) .mt) (.nd (.int .i64 0) (.nd (.slice none 0 0) .mt .mt) .mt))
set_option maxRecDepth 100000 in
def Jq : VT := (.nd (.int .u32 0) (.nd (.int .u32 0) (.nd (.int .u32 0) (.nd (.int .u32 0) (.nd (.int .u32 0) (.nd (.int .u32 0) (.nd (.int .u32 0) (.nd (.int .u32 0) (.nd (.int .u32 0) .mt .mt) .mt) (.nd (.int .u32 0) .mt .mt)) (.nd (.int .u32 0) (.nd (.int .u32 0) .mt .mt) (.nd (.int .u32 0) .mt .mt))) (.nd (.int .u32 0) (.nd (.int .u32 0) (.nd (.int .u32 0) .mt .mt) (.nd (.int .u32 0) .mt .mt)) (.nd (.int .u32 0) (.nd (.int .u32 0) .mt .mt) (.nd (.int .u32 0) .mt .mt)))) (.nd (.int .u32 0) (.nd (.int .u32 0) (.nd (.int .u32 0) (.nd (.int .u32 0) .mt .mt) (.nd (.int .u32 0) .mt .mt)) (.nd (.int .u32 0) (.nd (.int .u32 0) .mt .mt) (.nd (.int .u32 0) .mt .mt))) (.nd (.int .u32 0) (.nd (.int .u32 0) (.nd (.int .u32 0) .mt .mt) (.nd (.int .u32 0) .mt .mt)) (.nd (.int .u32 0) (.nd (.int .u32 0) .mt .mt) (.nd (.int .u32 0) .mt .mt))))) (.nd (.int .u32 0) (.nd (.int .u32 0) (.nd (.int .u32 0) (.nd (.int .u32 0) (.nd (.int .u32 0) .mt .mt) (.nd (.int .u32 0) .mt .mt)) (.nd (.int .u32 0) (.nd (.int .u32 0) .mt .mt) (.nd (.int .u32 0) .mt .mt))) (.nd (.int .u32 0) (.nd (.int .u32 0) (.nd (.int .u32 0) .mt .mt) (.nd (.int .u32 0) .mt .mt)) (.nd (.int .u32 0) (.nd (.int .u32 0) .mt .mt) (.nd (.int .u32 0) .mt .mt)))) (.nd (.int .u32 0) (.nd (.int .u32 0) (.nd (.int .u32 0) (.nd (.int .u32 0) .mt .mt) (.nd (.int .u32 0) .mt .mt)) (.nd (.int .u32 0) (.nd (.int .u32 0) .mt .mt) (.nd (.int .u32 0) .mt .mt))) (.nd (.int .u32 0) (.nd (.int .u32 0) (.nd (.int .u32 0) .mt .mt) (.nd (.int .u32 0) .mt .mt)) (.nd (.int .u32 0) (.nd (.int .u32 0) .mt .mt) (.nd (.int .u32 0) .mt .mt)))))) (.nd (.int .u32 0) (.nd (.int .u32 0) (.nd (.int .u32 0) (.nd (.int .u32 0) (.nd (.int .u32 0) (.nd (.int .u32 0) .mt .mt) (.nd (.int .u32 0) .mt .mt)) (.nd (.int .u32 0) (.nd (.int .u32 0) .mt .mt) (.nd (.int .u32 0) .mt .mt))) (.nd (.int .u32 0) (.nd (.int .u32 0) (.nd (.int .u32 0) .mt .mt) (.nd (.int .u32 0) .mt .mt)) (.nd (.int .u32 0) (.nd (.int .u32 0) .mt .mt) (.nd (.int .u32 0) .mt .mt)))) (.nd (.int .u32 0) (.nd (.int .u32 0) (.nd (.int .u32 0) (.nd (.int .u32 0) .mt .mt) (.nd (.int .u32 0) .mt .mt)) (.nd (.int .u32 0) (.nd (.int .u32 0) .mt .mt) (.nd (.int .u32 0) .mt .mt))) (.nd (.int .u32 0) (.nd (.int .u32 0) (.nd (.int .u32 0) .mt .mt) (.nd (.int .u32 0) .mt .mt)) (.nd (.int .u32 0) (.nd (.int .u32 0) .mt .mt) (.nd (.int .u32 0) .mt .mt))))) (.nd (.int .u32 0) (.nd (.int .u32 0) (.nd (.int .u32 0) (.nd (.int .u32 0) (.nd (.int .u32 0) .mt .mt) (.nd (.int .u32 0) .mt .mt)) (.nd (.int .u32 0) (.nd (.int .u32 0) .mt .mt) (.nd (.int .u32 0) .mt .mt))) (.nd (.int .u32 0) (.nd (.int .u32 0) (.nd (.int .u32 0) .mt .mt) (.nd (.int .u32 0) .mt .mt)) (.nd (.int .u32 0) (.nd (.int .u32 0) .mt .mt) (.nd (.int .u32 0) .mt .mt)))) (.nd (.int .u32 0) (.nd (.int .u32 0) (.nd (.int .u32 0) (.nd (.int .u32 0) .mt .mt) (.nd (.int .u32 0) .mt .mt)) (.nd (.int .u32 0) (.nd (.int .u32 0) .mt .mt) (.nd (.int .u32 0) .mt .mt))) (.nd (.int .u32 0) (.nd (.int .u32 0) (.nd (.int .u32 0) .mt .mt) (.nd (.int .u32 0) .mt .mt)) (.nd (.int .u32 0) (.nd (.int .u32 0) .mt .mt) (.nd (.int .u32 0) .mt .mt))))))) (.nd (.int .u32 0) (.nd (.int .u32 0) (.nd (.int .u32 0) (.nd (.int .u32 0) (.nd (.int .u32 0) (.nd (.int .u32 0) (.nd (.int .u32 0) .mt .mt) (.nd (.int .u32 0) .mt .mt)) (.nd (.int .u32 0) (.nd (.int .u32 0) .mt .mt) (.nd (.int .u32 0) .mt .mt))) (.nd (.int .u32 0) (.nd (.int .u32 0) (.nd (.int .u32 0) .mt .mt) (.nd (.int .u32 0) .mt .mt)) (.nd (.int .u32 0) (.nd (.int .u32 0) .mt .mt) (.nd (.int .u32 0) .mt .mt)))) (.nd (.int .u32 0) (.nd (.int .u32 0) (.nd (.int .u32 0) (.nd (.int .u32 0) .mt .mt) (.nd (.int .u32 0) .mt .mt)) (.nd (.int .u32 0) (.nd (.int .u32 0) .mt .mt) (.nd (.int .u32 0) .mt .mt))) (.nd (.int .u32 0) (.nd (.int .u32 0) (.nd (.int .u32 0) .mt .mt) (.nd (.int .u32 0) .mt .mt)) (.nd (.int .u32 0) (.nd (.int .u32 0) .mt .mt) (.nd (.int .u32 0) .mt .mt))))) (.nd (.int .u32 0) (.nd (.int .u32 0) (.nd (.int .u32 0) (.nd (.int .u32 0) (.nd (.int .u32 0) .mt .mt) (.nd (.int .u32 0) .mt .mt)) (.nd (.int .u32 0) (.nd (.int .u32 0) .mt .mt) (.nd (.int .u32 0) .mt .mt))) (.nd (.int .u32 0) (.nd (.int .u32 0) (.nd (.int .u32 0) .mt .mt) (.nd (.int .u32 0) .mt .mt)) (.nd (.int .u32 0) (.nd (.int .u32 0) .mt .mt) (.nd (.int .u32 0) .mt .mt)))) (.nd (.int .u32 0) (.nd (.int .u32 0) (.nd (.int .u32 0) (.nd (.int .u32 0) .mt .mt) (.nd (.int .u32 0) .mt .mt)) (.nd (.int .u32 0) (.nd (.int .u32 0) .mt .mt) (.nd (.int .u32 0) .mt .mt))) (.nd (.int .u32 0) (.nd (.int .u32 0) (.nd (.int .u32 0) .mt .mt) (.nd (.int .u32 0) .mt .mt)) (.nd (.int .u32 0) (.nd (.int .u32 0) .mt .mt) (.nd (.int .u32 0) .mt .mt)))))) (.nd (.int .u32 0) (.nd (.int .u32 0) (.nd (.int .u32 0) (.nd (.int .u32 0) (.nd (.int .u32 0) (.nd (.int .u32 0) .mt .mt) (.nd (.int .u32 0) .mt .mt)) (.nd (.int .u32 0) (.nd (.int .u32 0) .mt .mt) (.nd (.int .u32 0) .mt .mt))) (.nd (.int .u32 0) (.nd (.int .u32 0) (.nd (.int .u32 0) .mt .mt) (.nd (.int .u32 0) .mt .mt)) (.nd (.int .u32 0) (.nd (.int .u32 0) .mt .mt) (.nd (.int .u32 0) .mt .mt)))) (.nd (.int .u32 0) (.nd (.int .u32 0) (.nd (.int .u32 0) (.nd (.int .u32 0) .mt .mt) (.nd (.int .u32 0) .mt .mt)) (.nd (.int .u32 0) (.nd (.int .u32 0) .mt .mt) (.nd (.int .u32 0) .mt .mt))) (.nd (.int .u32 0) (.nd (.int .u32 0) (.nd (.int .u32 0) .mt .mt) (.nd (.int .u32 0) .mt .mt)) (.nd (.int .u32 0) (.nd (.int .u32 0) .mt .mt) (.nd (.int .u32 0) .mt .mt))))) (.nd (.int .u32 0) (.nd (.int .u32 0) (.nd (.int .u32 0) (.nd (.int .u32 0) (.nd (.int .u32 0) .mt .mt) (.nd (.int .u32 0) .mt .mt)) (.nd (.int .u32 0) (.nd (.int .u32 0) .mt .mt) (.nd (.int .u32 0) .mt .mt))) (.nd (.int .u32 0) (.nd (.int .u32 0) (.nd (.int .u32 0) .mt .mt) (.nd (.int .u32 0) .mt .mt)) (.nd (.int .u32 0) (.nd (.int .u32 0) .mt .mt) (.nd (.int .u32 0) .mt .mt)))) (.nd (.int .u32 0) (.nd (.int .u32 0) (.nd (.int .u32 0) (.nd (.int .u32 0) .mt .mt) (.nd (.int .u32 0) .mt .mt)) (.nd (.int .u32 0) (.nd (.int .u32 0) .mt .mt) (.nd (.int .u32 0) .mt .mt))) (.nd (.int .u32 0) (.nd (.int .u32 0) (.nd (.int .u32 0) .mt .mt) (.nd (.int .u32 0) .mt .mt)) (.nd (.int .u32 0) (.nd (.int .u32 0) .mt .mt) (.nd (.int .u32 0) .mt .mt))))))))
set_option maxRecDepth 100000 in
def qx : VT := (.nd (.pointer none) .mt .mt)
set_option maxRecDepth 100000 in
def Ow : VT := (.nd (.int .u64 0) (.nd (.int .u64 0) (.nd (.int .u64 0) .mt .mt) (.nd (.int .u64 0) .mt .mt)) (.nd (.int .u64 0) (.nd (.int .u64 0) .mt .mt) .mt))
set_option maxRecDepth 100000 in
def RG : VT := (.nd (.int .i64 0) (.nd (.int .i64 0) (.nd (.int .u8 0) .mt .mt) (.nd (.int .i64 0) .mt .mt)) (.nd (.int .i64 0) (.nd (.slice none 0 0) .mt .mt) .mt))
set_option maxRecDepth 100000 in
def X8 : VT := (.nd (.int .u8 0) (.nd (.int .u8 0) (.nd (.int .u8 0) (.nd (.int .u8 0) (.nd (.int .u8 0) (.nd (.int .u8 0) (.nd (.int .u8 0) .mt .mt) .mt) (.nd (.int .u8 0) .mt .mt)) (.nd (.int .u8 0) (.nd (.int .u8 0) .mt .mt) (.nd (.int .u8 0) .mt .mt))) (.nd (.int .u8 0) (.nd (.int .u8 0) (.nd (.int .u8 0) .mt .mt) (.nd (.int .u8 0) .mt .mt)) (.nd (.int .u8 0) (.nd (.int .u8 0) .mt .mt) (.nd (.int .u8 0) .mt .mt)))) (.nd (.int .u8 0) (.nd (.int .u8 0) (.nd (.int .u8 0) (.nd (.int .u8 0) .mt .mt) (.nd (.int .u8 0) .mt .mt)) (.nd (.int .u8 0) (.nd (.int .u8 0) .mt .mt) (.nd (.int .u8 0) .mt .mt))) (.nd (.int .u8 0) (.nd (.int .u8 0) (.nd (.int .u8 0) .mt .mt) (.nd (.int .u8 0) .mt .mt)) (.nd (.int .u8 0) (.nd (.int .u8 0) .mt .mt) (.nd (.int .u8 0) .mt .mt))))) (.nd (.int .u8 0) (.nd (.int .u8 0) (.nd (.int .u8 0) (.nd (.int .u8 0) (.nd (.int .u8 0) .mt .mt) (.nd (.int .u8 0) .mt .mt)) (.nd (.int .u8 0) (.nd (.int .u8 0) .mt .mt) (.nd (.int .u8 0) .mt .mt))) (.nd (.int .u8 0) (.nd (.int .u8 0) (.nd (.int .u8 0) .mt .mt) (.nd (.int .u8 0) .mt .mt)) (.nd (.int .u8 0) (.nd (.int .u8 0) .mt .mt) (.nd (.int .u8 0) .mt .mt)))) (.nd (.int .u8 0) (.nd (.int .u8 0) (.nd (.int .u8 0) (.nd (.int .u8 0) .mt .mt) (.nd (.int .u8 0) .mt .mt)) (.nd (.int .u8 0) (.nd (.int .u8 0) .mt .mt) (.nd (.int .u8 0) .mt .mt))) (.nd (.int .u8 0) (.nd (.int .u8 0) (.nd (.int .u8 0) .mt .mt) (.nd (.int .u8 0) .mt .mt)) (.nd (.int .u8 0) (.nd (.int .u8 0) .mt .mt) (.nd (.int .u8 0) .mt .mt))))))
set_option maxRecDepth 100000 in
def X9 : VT := (.nd (.int .u64 0) .mt .mt)
def c2 : C :=
(cOp t0 (AL 1 [])
AO)
def b2 : Body := ⟨[], c2⟩
def al2 : List Nat := []
theorem df : Am ty al2 Tryz.f2 = some b2 := by kernel_rfl
def c3 : C :=
(cOp t4 (CG g0)
(cOp t8 (AC (kV (.bool false)))
(cOp t24 (AE 4 g4)
(cOp t25 (AG g24)
(cOp t26 (Aw g25)
(cOp t27 (AM iGt .i64 g26 (kV (.int .i64 300)))
(cG g27 false t29 (AC g1)
(cG g27 false t30 (Aw g29)
(cG g27 false t31 (AM iGt .i64 g30 (kV (.int .i64 200)))
(cOp t32 (AW g27 (kV (.bool true)) g31)
(AJ g32
(cOp t33 (AL 4 [])
(cOp t8 (AC g33)
AU))
(cOp t34 (AL 5 [])
(cOp t9 (A9 256 Jq)
(cDo (AP 256 g9 g34)
(Al (AJ g3
(cOp t36 (BA Ld.zero [])
(cDo (AP 256 g9 g36)
AO))
AO)
(cOp t38 (Ac 5 g4)
(cOp t39 (AL 6 [g9, g38])
(cOp t40 (AN 0 g39)
(cOp t41 (AN 1 g39)
(cOp t10 (AC g40)
(cOp t11 (AC g41)
(cOp t43 (Ac 5 g4)
(cOp t44 (AL 7 [g9, g43])
(cOp t45 (AN 0 g44)
(cOp t46 (AN 1 g44)
(cOp t12 (AC g45)
(cOp t13 (AC g46)
(cOp t49 (AL 8 [g10, g12])
(cOp t50 (Bo g49)
(cG g50 false t52 (AC g11)
(cG g50 false t53 (AC g13)
(cG g50 false t54 (AM iNe .i64 g52 g53)
(cOp t55 (AW g50 (kV (.bool true)) g54)
(cG g55 false t57 (AC g2)
(cG g55 false t58 (AL 9 [g57])
(cG g55 false t59 (AC g2)
(cG g55 false t60 (II g59 (kV (.int .i64 131072)))
(cG g55 false t61 (AL 10 [g60])
(cG g55 false t62 (AM iNe .i64 g58 g61)
(cOp t63 (AW g55 (kV (.bool true)) g62)
(AJ g63
(cOp t8 (AC (kV (.bool false)))
AU)
(cOp t66 (AX 2 (A6 HL.zero 2) [(0, 1, g1), (1, 1, g10)])
(cOp t67 (Aw g66)
(cOp t68 (AC (kV (.int .i64 0)))
(Al (AK 0 (Aj (cOp t69 (AM iLt .i64 g68 g67)
(AJ g69
(Al (AK 1 (cOp t70 (AY 1 g66 g68)
(cOp t71 (AG g70)
(cOp t15 (AC g71)
(cOp t74 (AL 11 [g9, g15])
(cOp t75 (AN 0 g74)
(cOp t76 (AN 1 g74)
(cOp t77 (AN 2 g74)
(cOp t78 (AN 3 g74)
(cOp t16 (A9 5 Bx)
(cDo (AP 5 g16 g75)
(cOp t17 (AC g76)
(cOp t18 (AC g77)
(cOp t19 (AC g78)
(cOp t81 (AL 12 [g9, g15])
(cOp t82 (AN 0 g81)
(cOp t83 (AN 1 g81)
(cOp t84 (AN 2 g81)
(cOp t85 (AN 3 g81)
(cOp t20 (A9 5 Bx)
(cDo (AP 5 g20 g82)
(cOp t21 (AC g83)
(cOp t22 (AC g84)
(cOp t23 (AC g85)
(cOp t86 (Ac 5 g16)
(cOp t87 (Ac 5 g20)
(cOp t88 (AL 13 [g86, g87])
(cOp t89 (Bo g88)
(cG g89 false t91 (AC g17)
(cG g89 false t92 (AC g21)
(cG g89 false t93 (AM iNe .i64 g91 g92)
(cOp t94 (AW g89 (kV (.bool true)) g93)
(cG g94 false t96 (AC g18)
(cG g94 false t97 (AC g22)
(cG g94 false t98 (AM iNe .u32 g96 g97)
(cOp t99 (AW g94 (kV (.bool true)) g98)
(cG g99 false Q1 (AC g19)
(cG g99 false Q2 (AC g23)
(cG g99 false LX (oEq ty4.k true GT K4)
(cOp LY (AW g99 (kV (.bool true)) Jr)
(AJ K5
(cOp t8 (AC (kV (.bool false)))
AU)
AO)))))))))))))))))))))))))))))))))))))))))
(cOp Q3 (Ai .i64 (AQ .i64) g68 (kV (.int .i64 1)))
(cOp t68 (AC QC)
AO)))
(At 0)))))
(cOp Of (AL 4 [])
(cOp t8 (AC N1)
AU)))))))))))))))))))))))))))))))))))))))))))))))
def b3 : Body := ⟨[.t g8], c3⟩
def al3 : List Nat := [28, 35, 37, 42, 47, 48, 51, 56, 64, 65, 72, 73, 79, 80, 90, 95, 100]
theorem dh : Am ty al3 Tryz.f3 = some b3 := by kernel_rfl
def c4 : C :=
(cOp t0 (AC (kV (.bool false)))
(cOp t9 (AL 5 [])
(cOp t1 (A9 256 Jq)
(cDo (AP 256 g1 g9)
(cOp t11 (AL 14 [(kV (.int .i64 6))])
(cOp t12 (AN 0 g11)
(cOp t13 (AN 1 g11)
(cOp t2 (AC g12)
(cOp t3 (AC g13)
(cOp t16 (AL 15 [g2, g1, (kV (.int .i64 100))])
(cOp t17 (AN 0 g16)
(cOp t18 (AN 1 g16)
(cOp t4 (AC g17)
(cOp t5 (AC g18)
(cOp t20 (AM iNe .i64 g3 (kV (.int .i64 0)))
(cG g20 false t22 (AC g5)
(cG g20 false t23 (AM iNe .i64 g22 (kV (.int .i64 0)))
(cOp t24 (AW g20 (kV (.bool true)) g23)
(cG g24 false t26 (AC g4)
(cG g24 false t27 (AL 16 [g26])
(cG g24 false t28 (AM iNe .i64 g27 (kV (.int .i64 2)))
(cOp t29 (AW g24 (kV (.bool true)) g28)
(cG g29 false t31 (AC g4)
(cG g29 false t32 (AX 2 (A6 ty5.zero 2) [(0, 1, (kV (.int .u8 97))), (1, 1, (kV (.int .u8 98)))])
(cG g29 false t33 (Hq g32)
(cG g29 false t34 (AL 17 [g31, (kV (.int .i64 7)), (kV (.int .i64 0)), (kV (.int .i64 1)), g33])
(cG g29 false t35 (AM iNe .i64 g34 (kV (.int .i64 0)))
(cOp t36 (AW g29 (kV (.bool true)) g35)
(cG g36 false t38 (AC g4)
(cG g36 false t39 (AL 18 [g38, (kV (.int .i64 7)), (kV (.int .i64 0)), (kV (.int .i64 1))])
(cG g36 false t40 (AM iNe .i64 g39 (kV (.int .i64 0)))
(cOp t41 (AW g36 (kV (.bool true)) g40)
(cG g41 false t43 (AC g4)
(cG g41 false t44 (AL 19 [g43, (kV (.int .i64 7)), (kV (.int .i64 1)), (kV (.string ⟨#[97, 98]⟩))])
(cG g41 false t45 (Bo g44)
(cOp t46 (AW g41 (kV (.bool true)) g45)
(cG g46 false t48 (AC g4)
(cG g46 false t49 (AX 2 (A6 ty5.zero 2) [(0, 1, (kV (.int .u8 99))), (1, 1, (kV (.int .u8 100)))])
(cG g46 false t50 (Hq g49)
(cG g46 false t51 (AL 17 [g48, (kV (.int .i64 7)), (kV (.int .i64 0)), (kV (.int .i64 2)), g50])
(cG g46 false t52 (AM iNe .i64 g51 (kV (.int .i64 0)))
(cOp t53 (AW g46 (kV (.bool true)) g52)
(cG g53 false t55 (AC g4)
(cG g53 false t56 (AL 19 [g55, (kV (.int .i64 7)), (kV (.int .i64 1)), (kV (.string ⟨#[97, 98]⟩))])
(cG g53 false t57 (Bo g56)
(cOp t58 (AW g53 (kV (.bool true)) g57)
(cG g58 false t60 (AC g4)
(cG g58 false t61 (AL 16 [g60])
(cG g58 false t62 (AM iNe .i64 g61 (kV (.int .i64 0)))
(cOp t63 (AW g58 (kV (.bool true)) g62)
(AJ g63
(cOp t0 (AC (kV (.bool false)))
AU)
(cOp t65 (AX 1 (A6 ty5.zero 1) [(0, 1, (kV (.int .u8 101)))])
(cOp t66 (Hq g65)
(cOp t67 (AL 17 [g4, (kV (.int .i64 8)), (kV (.int .i64 0)), (kV (.int .i64 1)), g66])
(cOp t68 (AM iNe .i64 g67 (kV (.int .i64 62)))
(cG g68 false t70 (AC g4)
(cG g68 false t71 (AL 18 [g70, (kV (.int .i64 7)), (kV (.int .i64 0)), (kV (.int .i64 2))])
(cG g68 false t72 (AM iNe .i64 g71 (kV (.int .i64 0)))
(cOp t73 (AW g68 (kV (.bool true)) g72)
(cG g73 false t75 (AC g4)
(cG g73 false t76 (AL 19 [g75, (kV (.int .i64 7)), (kV (.int .i64 2)), (kV (.string ⟨#[99, 100]⟩))])
(cG g73 false t77 (Bo g76)
(cOp t78 (AW g73 (kV (.bool true)) g77)
(cG g78 false t80 (AC g4)
(cG g78 false t81 (AL 16 [g80])
(cG g78 false t82 (AM iNe .i64 g81 (kV (.int .i64 1)))
(cOp t83 (AW g78 (kV (.bool true)) g82)
(cG g83 false t85 (AC g4)
(cG g83 false t86 (AL 18 [g85, (kV (.int .i64 7)), (kV (.int .i64 0)), (kV (.int .i64 1))])
(cG g83 false t87 (AM iNe .i64 g86 (kV (.int .i64 61)))
(cOp t88 (AW g83 (kV (.bool true)) g87)
(cG g88 false t90 (AC g4)
(cG g88 false t91 (AL 20 [g90, (kV (.int .i64 7)), (kV (.int .i64 0)), (kV (.int .i64 2))])
(cG g88 false t92 (AM iNe .i64 g91 (kV (.int .i64 61)))
(cOp t93 (AW g88 (kV (.bool true)) g92)
(AJ g93
(cOp t0 (AC (kV (.bool false)))
AU)
(cOp t96 (AL 15 [g2, g1, (kV (.int .i64 100))])
(cOp t97 (AN 0 g96)
(cOp t98 (AN 1 g96)
(cOp t6 (AC g97)
(cOp t7 (AC g98)
(cOp NP (AL 21 [g6])
(cOp t8 (AC L8)
(cOp Q2 (AM iEq .i64 g7 (kV (.int .i64 0)))
(cG K4 true LY (AC g8)
(cG K4 true Q3 (Aw K5)
(cG K4 true Of (AM iEq .i64 QC (kV (.int .i64 1)))
(cOp Q4 (AW K4 N1 (kV (.bool false)))
(cG EJ true Oh (AC g8)
(cG EJ true NQ (AY 5 N3 (kV (.int .i64 0)))
(cG EJ true NR (AE 0 L9)
(cG EJ true NS (AG K6)
(cG EJ true NT (AM iEq .i64 MA (kV (.int .i64 7)))
(cOp NU (AW EJ MB (kV (.bool false)))
(cG GU true LZ (AC g8)
(cG GU true Oi (AY 5 Gy (kV (.int .i64 0)))
(cG GU true Q5 (AE 2 Ff)
(cG GU true NV (AG QD)
(cG GU true NW (AM iEq .i64 MC (kV (.int .i64 2)))
(cOp Oj (AW GU MD (kV (.bool false)))
(cG K7 true Ol (AC g6)
(cG K7 true Q6 (AL 22 [IG])
(cG K7 true La (AM iEq .i64 QE (kV (.int .i64 0)))
(cOp NX (AW K7 Eg (kV (.bool false)))
(cOp t0 (AC ME)
AU)))))))))))))))))))))))))))))))))))))))))))))))))))))))))))))))))))))))))))))))))))))))))))))))))))))))))
def b4 : Body := ⟨[.t g0], c4⟩
def al4 : List Nat := [10, 14, 15, 19, 21, 25, 30, 37, 42, 47, 54, 59, 64, 69, 74, 79, 84, 89, 94, 95, 99, 101, 103, 108, 115, 122]
theorem dj : Am ty al4 Tryz.f4 = some b4 := by kernel_rfl
def c5 : C :=
(cOp t0 (A9 256 Jq)
(cOp t1 (A9 256 Jq)
(cOp t2 (AC (kV (.int .u32 2197175160)))
(cOp t6 (AC (kV (.int .i64 0)))
(Al (AK 0 (Aj (cOp t7 (AM iLt .i64 g6 (kV (.int .i64 8)))
(AJ g7
(Al (AK 1 (cOp t3 (AC g6)
(cOp t10 (FE .i64 (kV (.int .i64 128)) g3)
(cOp t12 (A4 256 1 g1 g10)
(cDo (AP 1 g12 g2)
(cOp t14 (AL 23 [g2])
(cOp t2 (AC g14)
AO)))))))
(cOp t15 (Ai .i64 (AQ .i64) g6 (kV (.int .i64 1)))
(cOp t6 (AC g15)
AO)))
(At 0)))))
(cOp t16 (AC (kV (.int .i64 0)))
(Al (AK 2 (Aj (cOp t17 (AM iLt .i64 g16 (kV (.int .i64 8)))
(AJ g17
(Al (AK 3 (cOp t4 (AC g16)
(cOp t20 (Ga .i64 (kV (.int .i64 1)) g4)
(cOp t21 (AC (kV (.int .i64 0)))
(AK 4 (Aj (cOp t22 (AM iLt .i64 g21 g20)
(AJ g22
(Al (AK 5 (cOp t5 (AC g21)
(Ar (cOp t25 (Ga .i64 (kV (.int .i64 1)) g4)
(cOp t27 (DP Nat.lor .i64 g25 g5)
(cOp t29 (Ga .i64 (kV (.int .i64 1)) g4)
(cOp t30 (A4 256 1 g1 g29)
(cOp t31 (AG g30)
(cOp t33 (A4 256 1 g1 g5)
(cOp t34 (AG g33)
(cOp t35 (DP Nat.xor .u32 g31 g34)
(cOp t36 (A4 256 1 g1 g27)
(cDo (AS .free (AP 1 g36 g35))
AO)))))))))))))
(cOp t37 (Ai .i64 (AQ .i64) g21 (kV (.int .i64 1)))
(cOp t21 (AC g37)
AO)))
(At 4)))))))))
(cOp t38 (Ai .i64 (AQ .i64) g16 (kV (.int .i64 1)))
(cOp t16 (AC g38)
AO)))
(At 2)))))
(cOp t39 (Ac 256 g1)
(cDo (AP 256 g0 g39)
AU)))))))))
def b5 : Body := ⟨[.cN g0 256], c5⟩
def al5 : List Nat := [8, 9, 11, 13, 18, 19, 23, 24, 26, 28, 32]
theorem dk : Am ty al5 Tryz.f5 = some b5 := by kernel_rfl
def c6 : C :=
(cOp t3 (CG g1)
(cOp t4 (AC (kV (.slice none 0 0)))
(cOp t5 (AC (kV (.int .i64 0)))
(cOp t9 (Ac 5 g3)
(cOp t10 (AL 24 [g9])
(cOp t11 (Bo g10)
(AJ g11
(cOp t4 (AC (kV (.slice none 0 0)))
(cOp t5 (AC (kV (.int .i64 2)))
AU))
(cOp t6 (AC (kV (.slice none 0 0)))
(Ar (cOp t12 (AE 3 g3)
(Cn g12 (B7 g12 []
(cOp t13 (AG g12)
(cOp t14 (An .u64 g13)
(cOp t15 (AE 0 g3)
(Cn g15 (B7 g15 []
(cOp t16 (AG g15)
(cOp t17 (An .u64 g16)
(cOp t18 (AE 1 g3)
(Cn g18 (B7 g18 []
(cOp t19 (AG g18)
(cOp t20 (An .u64 g19)
(cOp t21 (AE 2 g3)
(Cn g21 (B7 g21 []
(cOp t22 (AG g21)
(cOp t23 (An .u64 g22)
(cOp t24 (AE 4 g3)
(Cn g24 (B7 g24 []
(cOp t25 (AG g24)
(cOp t26 (Aw g25)
(cOp t27 (An .u64 g26)
(cOp t29 (AE 4 g3)
(cOp t30 (AG g29)
(cOp t31 (AS .weak (AL 25 [g0, g30]))
(cOp t32 (An .u64 g31)
(cOp t33 (AS .strong (AX 6 (A6 Jn.zero 6) [(0, 1, g14), (1, 1, g17), (2, 1, g20), (3, 1, g23), (4, 1, g27), (5, 1, g32)]))
(cOp t34 (Aw g33)
(cOp t35 (AC (kV (.int .i64 0)))
(Al (AK 0 (Aj (cOp t36 (AM iLt .i64 g35 g34)
(AJ g36
(Al (AK 1 (cOp t37 (AY 1 g33 g35)
(cOp t38 (AG g37)
(cOp t8 (AC g38)
(cOp t41 (AL 26 [g6, g8])
(cOp t6 (AC g41)
AO))))))
(cOp t42 (Ai .i64 (AQ .i64) g35 (kV (.int .i64 1)))
(cOp t35 (AC g42)
AO)))
(At 0)))))
(cOp t46 (Aw g6)
(cOp t47 (As Int.sub .i64 (kV (.int .i64 60)) g46)
(cOp t48 (DH 1 1 5 ty5.zero g6 g47)
(cOp t49 (AL 27 [g0, g48])
(cOp t4 (AC g49)
(cOp t5 (AC (kV (.int .i64 0)))
AU)))))))))))))))))))))))))))))))))))))))))))))))))
def b6 : Body := ⟨[.t g4, .t g5], c6⟩
def al6 : List Nat := [28, 39, 40, 43, 44, 45]
theorem dm : Am ty al6 Tryz.f6 = some b6 := by kernel_rfl
def c7 : C :=
(cOp t3 (CG g1)
(cOp t4 (AC (kV (.slice none 0 0)))
(cOp t5 (AC (kV (.int .i64 0)))
(cOp t6 (Ac 5 g3)
(cOp t7 (AL 28 [g6])
(cOp t8 (Bo g7)
(AJ g8
(cOp t4 (AC (kV (.slice none 0 0)))
(cOp t5 (AC (kV (.int .i64 2)))
AU))
(Ar (Cn g3 (B7 g3 []
(cOp t10 (Ac 5 g3)
(cOp t11 (AE 4 g3)
(Cn g11 (B7 g11 []
(cOp t12 (AG g11)
(cOp t13 (Aw g12)
(cOp t15 (AE 4 g3)
(cOp t16 (AG g15)
(cOp t17 (AS .weak (AL 30 [g0, g16]))
(cOp t18 (AS .free (AL 29 [g0, g10, g13, g17]))
(cOp t4 (AC g18)
(cOp t5 (AC (kV (.int .i64 0)))
AU))))))))))))))))))))))
def b7 : Body := ⟨[.t g4, .t g5], c7⟩
def al7 : List Nat := [9, 14]
theorem dn : Am ty al7 Tryz.f7 = some b7 := by kernel_rfl
def c8 : C :=
(cOp t4 (AC (kV (.bool false)))
(cOp t6 (Cb g0)
(cOp t8 (Cb g1)
(cOp t9 (GG bEq g6 g8)
(cOp t4 (AC g9)
AU)))))
def b8 : Body := ⟨[.t g4], c8⟩
def al8 : List Nat := [5, 7]
theorem dp : Am ty al8 Tryz.f8 = some b8 := by kernel_rfl
def c9 : C :=
(cOp t2 (AC (kV (.int .i64 0)))
(cOp t4 (AM iLt .i64 g0 (kV (.int .i64 0)))
(cG g4 false t6 (AC g0)
(cG g4 false t7 (AM iGt .i64 g6 (kV (.int .i64 65536)))
(cOp t8 (AW g4 (kV (.bool true)) g7)
(AJ g8
(cOp t2 (AC (kV (.int .i64 0)))
AU)
(cOp t10 (Ai .i64 (AQ .i64) g0 (kV (.int .i64 64)))
(cOp t11 (As Int.sub .i64 g10 (kV (.int .i64 1)))
(cOp t12 (Ch .i64 g11 (kV (.int .i64 64)))
(cOp t13 (Ai .i64 (AQ .i64) (kV (.int .i64 1)) g12)
(cOp t2 (AC g13)
AU)))))))))))
def b9 : Body := ⟨[.t g2], c9⟩
def al9 : List Nat := [3, 5, 9]
theorem dq : Am ty al9 Tryz.f9 = some b9 := by kernel_rfl
def c10 : C :=
(cOp t2 (AC (kV (.int .i64 0)))
(cOp t6 (AM iLt .i64 g0 (kV (.int .i64 0)))
(cG g6 false t8 (AC g0)
(cG g6 false t9 (AM iGt .i64 g8 (kV (.int .i64 65536)))
(cOp t10 (AW g6 (kV (.bool true)) g9)
(AJ g10
(cOp t2 (AC (kV (.int .i64 0)))
AU)
(cOp t3 (AC (kV (.int .i64 1)))
(cOp t4 (AC (kV (.int .i64 0)))
(Al (AK 0 (Aj (cOp t13 (AM iLt .i64 g4 g0)
(AJ g13
(Al (AK 1 (cOp t17 (Ai .i64 (AQ .i64) g3 (kV (.int .i64 1)))
(cOp t3 (AC g17)
AO)))
(cOp t15 (Ai .i64 (AQ .i64) g4 (kV (.int .i64 64)))
(cOp t4 (AC g15)
AO)))
(At 0)))))
(cOp t2 (AC g3)
AU))))))))))
def b10 : Body := ⟨[.t g2], c10⟩
def bX : List Nat := [5, 7, 11, 12, 14, 16, 18]
theorem YD : Am ty bX Tryz.f10 = some b10 := by kernel_rfl
def c11 : C :=
(cOp t4 (A9 5 Bx)
(cOp t5 (AC (kV (.int .i64 0)))
(cOp t6 (AC (kV (.int .u32 0)))
(cOp t7 (AC (kV (.bool false)))
(cOp t18 (AL 31 [g0, g1])
(cOp t19 (AN 0 g18)
(cOp t20 (AN 1 g18)
(cOp t8 (AC g19)
(cOp t9 (AC g20)
(cOp t22 (AM iNe .i64 g9 (kV (.int .i64 0)))
(cG g22 false t24 (AC g8)
(cG g22 false t25 (Aw g24)
(cG g22 false t26 (AM iNe .i64 g25 (kV (.int .i64 60)))
(cOp t27 (AW g22 (kV (.bool true)) g26)
(AJ g27
(cOp t28 (BA Cv.zero [])
(cDo (AP 5 g4 g28)
(cOp t5 (AC (kV (.int .i64 0)))
(cOp t6 (AC (kV (.int .u32 0)))
(cOp t7 (AC (kV (.bool false)))
AU)))))
(cOp t10 (A9 6 Ow)
(cOp t11 (AC (kV (.int .i64 0)))
(cOp t29 (AC (kV (.int .i64 0)))
(Al (AK 0 (Aj (cOp t30 (AM iLt .i64 g29 (kV (.int .i64 6)))
(AJ g30
(Al (AK 1 (cOp t12 (AC g29)
(cOp t36 (AL 32 [g8, g11])
(cOp t37 (AN 0 g36)
(cOp t38 (AN 1 g36)
(cOp t39 (AN 2 g36)
(cOp t40 (A4 6 1 g10 g12)
(cDo (AP 1 g40 g37)
(cOp t11 (AC g38)
(cOp t9 (AC g39)
(cOp t42 (AM iNe .i64 g9 (kV (.int .i64 0)))
(cG g42 false t44 (AC g12)
(cG g42 false t45 (A4 6 1 g10 g44)
(cG g42 false t46 (AG g45)
(cG g42 false t47 (AM iGt .u64 g46 (kV (.int .u64 1099511627776)))
(cOp t48 (AW g42 (kV (.bool true)) g47)
(AJ g48
(cOp t49 (BA Cv.zero [])
(cDo (AP 5 g4 g49)
(cOp t5 (AC (kV (.int .i64 0)))
(cOp t6 (AC (kV (.int .u32 0)))
(cOp t7 (AC (kV (.bool false)))
AU)))))
AO)))))))))))))))))
(cOp t50 (Ai .i64 (AQ .i64) g29 (kV (.int .i64 1)))
(cOp t29 (AC g50)
AO)))
(At 0)))))
(cOp t51 (A4 6 1 g10 (kV (.int .i64 0)))
(cOp t52 (AG g51)
(cOp t53 (II g52 (kV (.int .u64 9)))
(cOp t54 (An .u8 g53)
(cOp t55 (A4 6 1 g10 (kV (.int .i64 1)))
(cOp t56 (AG g55)
(cOp t57 (An .i64 g56)
(cOp t58 (A4 6 1 g10 (kV (.int .i64 2)))
(cOp t59 (AG g58)
(cOp t60 (An .i64 g59)
(cOp t61 (A4 6 1 g10 (kV (.int .i64 3)))
(cOp t62 (AG g61)
(cOp t63 (An .i64 g62)
(cOp t64 (BA Cv.zero [(3, 1, g54), (0, 1, g57), (1, 1, g60), (2, 1, g63)])
(cOp t13 (A9 5 Bx)
(cDo (AP 5 g13 g64)
(cOp t14 (AC (kV (.func (.func 33) #[] #[])))
(cOp t65 (Ac 5 g13)
(cOp t66 (AL 24 [g65])
(cOp t67 (Bo g66)
(cG g67 false t69 (A4 6 1 g10 (kV (.int .i64 4)))
(cG g67 false t70 (AG g69)
(cG g67 false t71 (AM iGt .u64 g70 (kV (.int .u64 65536)))
(cOp t72 (AW g67 (kV (.bool true)) g71)
(cG g72 false t74 (A4 6 1 g10 (kV (.int .i64 5)))
(cG g72 false t75 (AG g74)
(cG g72 false t76 (AM iGt .u64 g75 (kV (.int .u64 4294967295)))
(cOp t77 (AW g72 (kV (.bool true)) g76)
(cG g77 false t79 (AC g8)
(cG g77 false t80 (AC g11)
(cG g77 false t81 (EM 5 1 g79 (some g80) none none)
(cG g77 false t82 (AC g14)
(cG g77 false t83 (AL 34 [g81, g82])
(cOp t84 (AW g77 (kV (.bool true)) g83)
(AJ g84
(cOp t85 (BA Cv.zero [])
(cDo (AP 5 g4 g85)
(cOp t5 (AC (kV (.int .i64 0)))
(cOp t6 (AC (kV (.int .u32 0)))
(cOp t7 (AC (kV (.bool false)))
AU)))))
(Ar (cOp t86 (Ac 5 g13)
(cOp t87 (A4 6 1 g10 (kV (.int .i64 4)))
(cOp t88 (AG g87)
(cOp t89 (An .i64 g88)
(cOp t90 (A4 6 1 g10 (kV (.int .i64 5)))
(cOp t91 (AG g90)
(cOp t92 (An .u32 g91)
(B7 g4 [g87, g90]
(cDo (Hm g4 (AP 5 g4 g86))
(cOp t5 (AC g89)
(cOp t6 (AC g92)
(cOp t7 (AC (kV (.bool true)))
AU)))))))))))))))))))))))))))))))))))))))))))))))))))))))))))))))))))
def b11 : Body := ⟨[.cN g4 5, .t g5, .t g6, .t g7], c11⟩
def bY : List Nat := [15, 16, 17, 21, 23, 31, 32, 33, 34, 35, 41, 43, 68, 73, 78]
theorem YE : Am ty bY Tryz.f11 = some b11 := by kernel_rfl
def c12 : C :=
(cOp t4 (A9 5 Bx)
(cOp t5 (AC (kV (.int .i64 0)))
(cOp t6 (AC (kV (.int .u32 0)))
(cOp t7 (AC (kV (.bool false)))
(cOp t8 (AC (kV (.slice none 0 0)))
(cOp t9 (AC (kV (.int .i64 0)))
(cOp t10 (AC (kV (.int .i64 0)))
(Al (AK 0 (Aj (cOp t16 (AM iLt .i64 g10 (kV (.int .i64 6)))
(AJ g16
(Al (AK 1 (cOp t22 (AL 35 [g1, g9])
(cOp t23 (AN 0 g22)
(cOp t24 (AN 1 g22)
(cOp t25 (AN 2 g22)
(cOp t11 (AC g23)
(cOp t12 (AC g24)
(cOp t13 (AC g25)
(cOp t27 (AM iNe .i64 g13 (kV (.int .i64 0)))
(cG g27 false t29 (AC g11)
(cG g27 false t30 (AM iGt .u64 g29 (kV (.int .u64 1099511627776)))
(cOp t31 (AW g27 (kV (.bool true)) g30)
(AJ g31
(cOp t32 (BA Cv.zero [])
(cDo (AP 5 g4 g32)
(cOp t5 (AC (kV (.int .i64 0)))
(cOp t6 (AC (kV (.int .u32 0)))
(cOp t7 (AC (kV (.bool false)))
AU)))))
(cOp t35 (AX 1 (A6 Jn.zero 1) [(0, 1, g11)])
(cOp t36 (BB 1 8 56 g8 g35)
(cOp t8 (AC g36)
(cOp t9 (AC g12)
AO)))))))))))))))))
(cOp t18 (Ai .i64 (AQ .i64) g10 (kV (.int .i64 1)))
(cOp t10 (AC g18)
AO)))
(At 0)))))
(cOp t39 (AY 1 g8 (kV (.int .i64 0)))
(cOp t40 (AG g39)
(cOp t41 (AM iGt .u64 g40 (kV (.int .u64 2)))
(cG g41 false t43 (AC g8)
(cG g41 false t44 (AY 1 g43 (kV (.int .i64 4)))
(cG g41 false t45 (AG g44)
(cG g41 false t46 (AM iGt .u64 g45 (kV (.int .u64 65536)))
(cOp t47 (AW g41 (kV (.bool true)) g46)
(cG g47 false t49 (AC g8)
(cG g47 false t50 (AY 1 g49 (kV (.int .i64 5)))
(cG g47 false t51 (AG g50)
(cG g47 false t52 (AM iGt .u64 g51 (kV (.int .u64 4294967295)))
(cOp t53 (AW g47 (kV (.bool true)) g52)
(AJ g53
(cOp t54 (BA Cv.zero [])
(cDo (AP 5 g4 g54)
(cOp t5 (AC (kV (.int .i64 0)))
(cOp t6 (AC (kV (.int .u32 0)))
(cOp t7 (AC (kV (.bool false)))
AU)))))
(Ar (cOp t56 (AY 1 g8 (kV (.int .i64 0)))
(cOp t57 (AG g56)
(cOp t58 (An .u8 g57)
(cOp t60 (AY 1 g8 (kV (.int .i64 1)))
(cOp t61 (AG g60)
(cOp t62 (An .i64 g61)
(cOp t64 (AY 1 g8 (kV (.int .i64 2)))
(cOp t65 (AG g64)
(cOp t66 (An .i64 g65)
(cOp t68 (AY 1 g8 (kV (.int .i64 3)))
(cOp t69 (AG g68)
(cOp t70 (An .i64 g69)
(cOp t71 (BA Cv.zero [(3, 1, g58), (0, 1, g62), (1, 1, g66), (2, 1, g70)])
(cOp t14 (AS .strong (A9 5 Bx))
(cDo (AS .free (AP 5 g14 g71))
(Ar (cOp t72 (Ac 5 g14)
(cOp t73 (AS .free (AL 28 [g72]))
(cOp t74 (Bo g73)
(cG g74 false t76 (AC g0)
(cG g74 false t77 (Ac 5 g14)
(cG g74 false t78 (AC g8)
(cG g74 false t79 (AY 1 g78 (kV (.int .i64 4)))
(cG g74 false t80 (AG g79)
(cG g74 false t81 (An .i64 g80)
(cG g74 false t82 (AC g8)
(cG g74 false t83 (AY 1 g82 (kV (.int .i64 5)))
(cG g74 false t84 (AG g83)
(cG g74 false t85 (An .u32 g84)
(cG g74 false t86 (AS .free (AL 29 [g76, g77, g81, g85]))
(cG g74 false t87 (AC g1)
(cG g74 false t88 (AS .free (AL 36 [g86, g87]))
(cG g74 false t89 (Bo g88)
(cOp t90 (AW g74 (kV (.bool true)) g89)
(AJ g90
(cOp t91 (BA Cv.zero [])
(cDo (AP 5 g4 g91)
(cOp t5 (AC (kV (.int .i64 0)))
(cOp t6 (AC (kV (.int .u32 0)))
(cOp t7 (AC (kV (.bool false)))
AU)))))
(Ar (cOp t92 (Ac 5 g14)
(cOp t94 (AY 1 g8 (kV (.int .i64 4)))
(cOp t95 (AG g94)
(cOp t96 (An .i64 g95)
(cOp t98 (AY 1 g8 (kV (.int .i64 5)))
(cOp t99 (AG g98)
(cOp NP (An .u32 g99)
(B7 g4 [g94, g98]
(cDo (Hm g4 (AP 5 g4 g92))
(cOp t5 (AC g96)
(cOp t6 (AC L8)
(cOp t7 (AC (kV (.bool true)))
AU)))))))))))))))))))))))))))))))))))))))))))))))))))))))))))))))))))))))
def b12 : Body := ⟨[.cN g4 5, .t g5, .t g6, .t g7], c12⟩
def bZ : List Nat := [15, 17, 19, 20, 21, 26, 28, 33, 34, 37, 38, 42, 48, 55, 59, 63, 67, 75, 93, 97]
theorem YF : Am ty bZ Tryz.f12 = some b12 := by kernel_rfl
def c13 : C :=
(cOp t2 (CG g0)
(cOp t3 (CG g1)
(cOp t4 (AC (kV (.bool false)))
(cOp t5 (AE 0 g2)
(cOp t6 (AG g5)
(cOp t7 (AE 0 g3)
(cOp t8 (AG g7)
(cOp t9 (AM iEq .i64 g6 g8)
(cG g9 true t11 (AE 1 g2)
(cG g9 true t12 (AG g11)
(cG g9 true t13 (AE 1 g3)
(cG g9 true t14 (AG g13)
(cG g9 true t15 (AM iEq .i64 g12 g14)
(cOp t16 (AW g9 g15 (kV (.bool false)))
(cG g16 true t18 (AE 2 g2)
(cG g16 true t19 (AG g18)
(cG g16 true t20 (AE 2 g3)
(cG g16 true t21 (AG g20)
(cG g16 true t22 (AM iEq .i64 g19 g21)
(cOp t23 (AW g16 g22 (kV (.bool false)))
(cG g23 true t25 (AE 3 g2)
(cG g23 true t26 (AG g25)
(cG g23 true t27 (AE 3 g3)
(cG g23 true t28 (AG g27)
(cG g23 true t29 (AM iEq .u8 g26 g28)
(cOp t30 (AW g23 g29 (kV (.bool false)))
(cG g30 true t32 (AE 4 g2)
(cG g30 true t33 (AG g32)
(cG g30 true t34 (AE 4 g3)
(cG g30 true t35 (AG g34)
(cG g30 true t36 (AL 8 [g33, g35])
(cOp t37 (AW g30 g36 (kV (.bool false)))
(cOp t4 (AC g37)
AU)))))))))))))))))))))))))))))))))
def b13 : Body := ⟨[.t g4], c13⟩
def ba : List Nat := [10, 17, 24, 31]
theorem YG : Am ty ba Tryz.f13 = some b13 := by kernel_rfl
def c14 : C :=
(cOp t2 (AC (kV (.pointer none)))
(cOp t3 (AC (kV (.int .i64 0)))
(cOp t5 (AM iLt .i64 g0 (kV (.int .i64 1)))
(cG g5 false t7 (AC g0)
(cG g5 false t8 (AM iGt .i64 g7 (kV (.int .i64 65536)))
(cOp t9 (AW g5 (kV (.bool true)) g8)
(AJ g9
(cOp t2 (AC (kV (.pointer none)))
(cOp t3 (AC (kV (.int .i64 2)))
AU))
(cOp t11 (GL 64 Tw.zero g0 g0)
(cOp t12 WX
(cOp t13 (BA hU.zero [(0, 1, g11), (1, 1, g12), (2, 1, (kV (.int .i64 (-1))))])
(cOp t14 (CG g13)
(cOp t2 (AC g14)
(cOp t3 (AC (kV (.int .i64 0)))
AU)))))))))))))
def b14 : Body := ⟨[.t g2, .t g3], c14⟩
def bb : List Nat := [4, 6, 10]
theorem YH : Am ty bb Tryz.f14 = some b14 := by kernel_rfl
def c15 : C :=
(cOp t6 (AC (kV (.pointer none)))
(cOp t7 (AC (kV (.int .i64 0)))
(cOp t22 (AL 37 [g0])
(cOp t8 (AC g22)
(Al (AK 0 (cOp t25 (AM iEq .i64 g8 (kV (.int .i64 0)))
(cG g25 false t27 (AC g1)
(cG g25 false t28 (oEq Jm.k false g27 (kV (.pointer none)))
(cOp t29 (AW g25 (kV (.bool true)) g28)
(cOp t23 (AC g29)
(AJ g23
(cOp t6 (AC (kV (.pointer none)))
(cOp t7 (AC (kV (.int .i64 1)))
AU))
(cOp t32 (AL 9 [g2])
(cOp t33 (AM iEq .i64 g32 (kV (.int .i64 0)))
(cG g33 false t35 (AC g2)
(cG g33 false t36 (AL 9 [g35])
(cG g33 false t37 (AC g8)
(cG g33 false t38 (AM iGt .i64 g36 g37)
(cOp t39 (AW g33 (kV (.bool true)) g38)
(cOp t30 (AC g39)
(AJ g30
(cOp t6 (AC (kV (.pointer none)))
(cOp t7 (AC (kV (.int .i64 2)))
AU))
(cOp t42 (AL 38 [g0])
(cOp t40 (AC g42)
(AJ g40
(cOp t6 (AC (kV (.pointer none)))
(cOp t7 (AC (kV (.int .i64 15)))
AU))
AO)))))))))))))))))))
(cOp t46 (BA iC.zero [(0, 1, g0), (1, 1, g1), (2, 1, g2)])
(cOp t47 (CG g46)
(cOp t9 (A9 1 qx)
(cDo (AP 1 g9 g47)
(cOp t10 (AC (kV (.slice none 0 0)))
(cOp t11 (AC (kV (.slice none 0 0)))
(cOp t50 (AL 9 [g2])
(cOp t51 (Ch .i64 g8 g50)
(cOp t52 (AC (kV (.int .i64 0)))
(Al (AK 1 (Aj (cOp t53 (AM iLt .i64 g52 g51)
(AJ g53
(Al (AK 2 (cOp t12 (AC g52)
(cOp t56 (AG g9)
(cOp t58 (AL 39 [g56, g12])
(cOp t59 (AN 0 g58)
(cOp t60 (AN 1 g58)
(cOp t61 (AN 2 g58)
(cOp t62 (AN 3 g58)
(cOp t13 (A9 6 RG)
(cDo (AP 6 g13 g59)
(cOp t14 (AC g60)
(cOp t15 (AC g61)
(cOp t16 (AC g62)
(Al (AK 3 (cOp t65 (AM iNe .i64 g16 (kV (.int .i64 0)))
(cOp t63 (AC g65)
(AJ g63
(cOp t6 (AC (kV (.pointer none)))
(cOp t7 (AC g16)
AU))
(cOp t67 (AC g14)
(AJ g67
(cOp t70 (Ac 6 g13)
(cOp t71 (AX 1 (A6 IL.zero 1) [(0, 6, g70)])
(cOp t72 (BB 6 64 77 g10 g71)
(cOp t10 (AC g72)
AO))))
(cOp t73 (AC g15)
(AJ g73
(cOp t75 (AG g9)
(cOp t76 (BF g75)
(cOp t77 (AE 5 g76)
(cOp t78 (AG g77)
(cOp t79 (Ai .i64 (AQ .i64) g78 (kV (.int .i64 1)))
(cOp t80 (BF g75)
(cOp t81 (AE 5 g80)
(cDo (AP 1 g81 g79)
AO))))))))
AO))))))))
(cG g14 false t84 (AC g15)
(cOp t85 (AW g14 (kV (.bool true)) g84)
(AJ g85
(cOp t88 (AX 1 (A6 ty3.zero 1) [(0, 1, g12)])
(cOp t89 (BB 1 8 3 g11 g88)
(cOp t11 (AC g89)
AO)))
AO)))))))))))))))))
(cOp t90 (Ai .i64 (AQ .i64) g52 (kV (.int .i64 1)))
(cOp t52 (AC g90)
AO)))
(At 1)))))
(cOp t92 (AL 40 [g10, (kV (.func (.func 41) #[] #[]))])
(Ar (Cn g9 (B7 g9 []
(cOp t93 (AG g9)
(cOp t95 (AS .weak (AL 42 [g10]))
(cOp t96 (BF g93)
(cOp t97 (AE 3 g96)
(cDo (AS .free (AP 1 g97 g95))
(cOp t98 (D6 (.func 43) [] [g9])
(cOp t17 (AC g98)
(cOp t18 (AC (kV (.slice none 0 0)))
(cOp Q1 (AL 9 [g2])
(cOp Q2 (Ch .i64 g8 GT)
(cOp LX (AC (kV (.int .i64 0)))
(Al (AK 4 (Aj (cOp LY (AM iLt .i64 Jr K4)
(AJ K5
(Al (AK 5 (cOp t19 (AC Jr)
(cOp Og (B8 g17 [g19])
(cOp Oh (Bo N2)
(AJ N3
(Ar (cOp NQ (AG g9)
(cOp NR (AG g9)
(cOp NS (BF K6)
(cOp NT (AE 4 MA)
(cOp NU (AG MB)
(cOp LZ (AS .strong (AX 1 (A6 ty3.zero 1) [(0, 1, g19)]))
(B7 GU [g9]
(cOp Oi (Hm GU (BB 1 8 3 GU Gy))
(cOp Q5 (BF L9)
(cOp NV (AE 4 QD)
(cDo (AS .free (AP 1 MC Ff))
(cOp Ok (AL 46 [g11, g19])
(AJ N4
(cOp La (AX 1 (A6 ty3.zero 1) [(0, 1, g19)])
(cOp NX (BB 1 8 3 g18 Eg)
(cOp t18 (AC ME)
AO)))
AO))))))))))))))
AO)))))
(cOp Q7 (Ai .i64 (AQ .i64) Jr (kV (.int .i64 1)))
(cOp LX (AC QF)
AO)))
(At 4)))))
(cOp Q8 (AG g9)
(cOp Q9 (AL 47 [QG, g18])
(cOp t20 (AC QH)
(cOp Om (AM iNe .i64 g20 (kV (.int .i64 0)))
(AJ QI
(cOp t6 (AC (kV (.pointer none)))
(cOp t7 (AC g20)
AU))
(cOp On (AG g9)
(cOp t6 (AC QJ)
(cOp t7 (AC (kV (.int .i64 0)))
AU)))))))))))))))))))))))))))))))))))))))
def b15 : Body := ⟨[.t g6, .t g7], c15⟩
def bf : List Nat := [21, 24, 26, 31, 34, 41, 43, 44, 45, 48, 49, 54, 55, 57, 64, 66, 68, 69, 74, 82, 83, 86, 87, 91, 94, 99, 100, 105, 106, 107, 115, 120, 121, 123, 124, 129, 131, 133]
theorem YI : Am ty bf Tryz.f15 = some b15 := by kernel_rfl
def c16 : C :=
(cOp t2 (AC (kV (.int .i64 0)))
(cOp t4 (oEq RD.k false g0 (kV (.pointer none)))
(AJ g4
(cOp t2 (AC (kV (.int .i64 0)))
AU)
(cOp t6 (BF g0)
(cOp t7 (AE 4 g6)
(cOp t8 (AG g7)
(cOp t9 (Aw g8)
(cOp t2 (AC g9)
AU))))))))
def b16 : Body := ⟨[.t g2], c16⟩
def bg : List Nat := [3, 5]
theorem YJ : Am ty bg Tryz.f16 = some b16 := by kernel_rfl
def c17 : C :=
(cOp t10 (AC (kV (.int .i64 0)))
(cOp t20 (AL 48 [g0])
(cOp t11 (AC g20)
(cOp t22 (AM iNe .i64 g11 (kV (.int .i64 0)))
(AJ g22
(cOp t10 (AC g11)
AU)
(cOp t28 (AL 49 [g4])
(cOp t29 (BA Cv.zero [(0, 1, g1), (1, 1, g2), (2, 1, g3), (3, 1, (kV (.int .u8 1))), (4, 1, g28)])
(cOp t12 (A9 5 Bx)
(cDo (AP 5 g12 g29)
(cOp t30 (Ac 5 g12)
(cOp t31 (AL 24 [g30])
(cOp t32 (Bo g31)
(cG g32 false t34 (AC g4)
(cG g32 false t35 (Aw g34)
(cG g32 false t36 (AC g0)
(cG g32 false t37 (BF g36)
(cG g32 false t38 (AE 2 g37)
(cG g32 false t39 (AG g38)
(cG g32 false t40 (AM iGt .i64 g35 g39)
(cOp t41 (AW g32 (kV (.bool true)) g40)
(AJ g41
(cOp t10 (AC (kV (.int .i64 2)))
AU)
(cOp t46 (AL 50 [g0, g1, g2, g3])
(cOp t13 (AC g46)
(cOp t48 (AM iGe .i64 g13 (kV (.int .i64 0)))
(AJ g48
(cOp t50 (BF g0)
(cOp t51 (AE 3 g50)
(cOp t52 (AG g51)
(cOp t54 (AY 6 g52 g13)
(cOp t55 (AE 0 g54)
(cOp t56 (AE 4 g55)
(cOp t57 (AG g56)
(cOp t59 (AL 51 [g57, g4])
(AJ g59
(cOp t10 (AC (kV (.int .i64 0)))
AU)
(cOp t10 (AC (kV (.int .i64 60)))
AU))))))))))
(Al (AK 0 (cOp t65 (AL 52 [g0, g1, g2, g3])
(cOp t60 (AC g65)
(AJ g60
(cOp t10 (AC (kV (.int .i64 61)))
AU)
(cOp t68 (BF g0)
(cOp t69 (AE 4 g68)
(cOp t70 (AG g69)
(cOp t71 (Aw g70)
(cOp t72 (AM iEq .i64 g71 (kV (.int .i64 0)))
(cOp t66 (AC g72)
(AJ g66
(cOp t10 (AC (kV (.int .i64 62)))
AU)
AO)))))))))))
(cOp t74 (BF g0)
(cOp t75 (AE 4 g74)
(cOp t76 (AG g75)
(cOp t77 (AY 1 g76 (kV (.int .i64 0)))
(cOp t78 (AG g77)
(cOp t14 (AC g78)
(Ar (cOp t81 (BF g0)
(cOp t82 (AE 1 g81)
(cOp t83 (AG g82)
(cOp t84 (Ac 5 g12)
(cOp t85 (AS .free (AL 6 [g83, g84]))
(cOp t86 (AN 0 g85)
(cOp t87 (AN 1 g85)
(cOp t15 (AC g86)
(cOp t16 (AC g87)
(cOp t17 (AC (kV (.slice none 0 0)))
(cOp t89 (Aw g4)
(cOp t90 (AM iGt .i64 g89 (kV (.int .i64 0)))
(Al (AJ g90
(Ar (cOp t94 (AS .weak (AL 54 [g0, g14]))
(cOp t95 (Ai .i64 (AQ .i64) g94 (kV (.int .i64 1)))
(cOp t96 (AE 4 g12)
(Cn g96 (B7 g96 []
(cOp t97 (AG g96)
(cOp t98 (AS .free (AL 53 [g0, g95, g97]))
(cOp t17 (AC g98)
AO)))))))))
AO)
(cOp LY (AL 54 [g0, g14])
(cOp Of (AL 53 [g0, K5, g15])
(cOp Q4 (BB 1 8 88 g17 N1)
(cOp Og (AL 55 [g0, EJ])
(cOp t18 (AC N2)
(cOp NQ (AM iNe .i64 g18 (kV (.int .i64 0)))
(AJ L9
(cOp t10 (AC g18)
AU)
(cOp NU (BF g0)
(cOp Tl (AE 4 GU)
(cOp LZ (AG SG)
(cOp Oi (EM 3 1 Gy (some (kV (.int .i64 1))) none none)
(cOp Q5 (AL 56 [Ff])
(cOp NV (BF g0)
(cOp NW (AE 4 MC)
(cDo (AP 1 MD QD)
(Ar (cOp Ol (BF g0)
(cOp Q6 (AE 3 IG)
(cOp La (AG QE)
(cOp NX (AS .weak (AL 57 [Eg]))
(Cn g12 (B7 g12 []
(cOp Q7 (Ac 5 g12)
(cOp NY (BA IL.zero [(0, 5, QF), (5, 1, g14)])
(cOp Q9 (AS .strong (AX 1 (A6 IL.zero 1) [(0, 6, MF)]))
(cOp Tm (AS .free (BB 6 64 77 ME QH))
(cOp Om (BF g0)
(cOp XF (AE 3 QI)
(cDo (AS .free (AP 1 Vc SH))
(cOp XG (BF g0)
(cOp Tn (AE 3 Vd)
(cOp XH (AG SI)
(cOp To (AL 40 [Vf, (kV (.func (.func 41) #[] #[]))])
(cOp t10 (AC (kV (.int .i64 0)))
AU))))))))))))))))))))))))))))))))))))))))))))))))))))))))))))))))))))))))))))))))
def b17 : Body := ⟨[.t g10], c17⟩
def bh : List Nat := [19, 21, 23, 24, 25, 26, 27, 33, 42, 43, 44, 45, 47, 49, 53, 58, 61, 62, 63, 64, 67, 73, 79, 80, 88, 91, 92, 93, 99, 100, 101, 102, 103, 105, 109, 111, 112, 113, 121, 122, 128, 134]
theorem YK : Am ty bh Tryz.f17 = some b17 := by kernel_rfl
def c18 : C :=
(cOp t8 (AC (kV (.int .i64 0)))
(cOp t19 (AL 48 [g0])
(cOp t9 (AC g19)
(cOp t21 (AM iNe .i64 g9 (kV (.int .i64 0)))
(AJ g21
(cOp t8 (AC g9)
AU)
(cOp t27 (AL 50 [g0, g1, g2, g3])
(cOp t10 (AC g27)
(Al (AK 0 (cOp t30 (AM iGe .i64 g10 (kV (.int .i64 0)))
(cG g30 true t32 (AC g0)
(cG g30 true t33 (BF g32)
(cG g30 true t34 (AE 3 g33)
(cG g30 true t35 (AG g34)
(cG g30 true t36 (AC g10)
(cG g30 true t37 (AY 6 g35 g36)
(cG g30 true t38 (AE 0 g37)
(cG g30 true t39 (AE 3 g38)
(cG g30 true t40 (AG g39)
(cG g30 true t41 (AM iEq .u8 g40 (kV (.int .u8 2)))
(cOp t42 (AW g30 g41 (kV (.bool false)))
(cOp t28 (AC g42)
(AJ g28
(cOp t8 (AC (kV (.int .i64 0)))
AU)
(cOp t48 (AL 52 [g0, g1, g2, g3])
(cOp t43 (AC g48)
(AJ g43
(cOp t8 (AC (kV (.int .i64 61)))
AU)
(cOp t51 (AM iLt .i64 g10 (kV (.int .i64 0)))
(cOp t49 (AC g51)
(AJ g49
(cOp t8 (AC (kV (.int .i64 60)))
AU)
AO)))))))))))))))))))))
(cOp t53 (BF g0)
(cOp t54 (AE 3 g53)
(cOp t55 (AG g54)
(cOp t57 (AY 6 g55 g10)
(cOp t58 (Ac 6 g57)
(cOp t11 (A9 6 RG)
(cDo (AP 6 g11 g58)
(cOp t59 (AE 0 g11)
(cOp t60 (AE 3 g59)
(cDo (AP 1 g60 (kV (.int .u8 2)))
(Ar (cOp t63 (BF g0)
(cOp t64 (AE 1 g63)
(cOp t65 (AG g64)
(cOp t66 (AE 0 g11)
(cOp t67 (Ac 5 g66)
(cOp t68 (AS .free (AL 6 [g65, g67]))
(cOp t69 (AN 0 g68)
(cOp t70 (AN 1 g68)
(cOp t12 (AC g69)
(cOp t13 (AC g70)
(cOp t74 (AE 5 g11)
(cOp t75 (AG g74)
(cOp t76 (AL 54 [g0, g75])
(cOp t78 (AL 53 [g0, g76, g12])
(cOp t79 (AL 55 [g0, g78])
(cOp t14 (AC g79)
(cOp t81 (AM iNe .i64 g14 (kV (.int .i64 0)))
(AJ g81
(cOp t8 (AC g14)
AU)
(cOp t85 (BF g0)
(cOp t86 (AE 3 g85)
(cOp t87 (AG g86)
(cOp t88 (AL 57 [g87])
(cOp t89 (BF g0)
(cOp t90 (AE 3 g89)
(cDo (AP 1 g90 g88)
(Ar (cOp t92 (BF g0)
(cOp t93 (AE 3 g92)
(cOp t94 (AG g93)
(cOp t96 (Ac 6 g11)
(cOp t97 (AY 6 g94 g10)
(cDo (AS .free (AP 6 g97 g96))
(cOp t15 (AC (kV (.slice none 0 0)))
(cOp t16 (AC (kV (.int .i64 0)))
(Al (AK 1 (Aj (cOp NP (BF g0)
(cOp Q1 (AE 3 L8)
(cOp Q2 (AG GT)
(cOp LX (Aw K4)
(cOp LY (AM iLt .i64 g16 Jr)
(AJ K5
(AK 2 (cOp Of (BF g0)
(cOp Q4 (AE 3 N1)
(cOp Og (AG EJ)
(cOp NQ (AY 6 N2 g16)
(cOp NR (Ac 6 L9)
(cOp t17 (A9 6 RG)
(cDo (AP 6 g17 K6)
(cOp NS (AE 0 g17)
(cOp NT (AE 0 MA)
(cOp NU (AG MB)
(cOp LZ (AM iEq .i64 GU g1)
(cG Gy true Q5 (AE 0 g17)
(cG Gy true NV (AE 1 QD)
(cG Gy true NW (AG MC)
(cG Gy true Oj (AC g2)
(cG Gy true Ok (AM iEq .i64 MD K7)
(cOp Ol (AW Gy N4 (kV (.bool false)))
(cG IG true La (AE 0 g17)
(cG IG true NX (AE 2 Eg)
(cG IG true Q7 (AG ME)
(cG IG true Q8 (AC g3)
(cG IG true NY (AM iLt .i64 QF QG)
(cOp Q9 (AW IG MF (kV (.bool false)))
(AJ QH
(cOp On (AL 58 [g0, g16])
(cOp XG (AX 1 (A6 ty3.zero 1) [(0, 1, QJ)])
(cOp Tn (BB 1 8 3 g15 Vd)
(cOp t15 (AC SI)
AO))))
(cOp To (Ai .i64 (AQ .i64) g16 (kV (.int .i64 1)))
(cOp t16 (AC Vg)
AO)))))))))))))))))))))))))))
(At 1)))))))))
(cOp XJ (AL 47 [g0, g15])
(cOp t8 (AC Vi)
AU))))))))))))))))))))))))))))))))))))))))))))))))))))))))
def b18 : Body := ⟨[.t g8], c18⟩
def bi : List Nat := [18, 20, 22, 23, 24, 25, 26, 29, 31, 44, 45, 46, 47, 50, 52, 56, 61, 62, 71, 72, 73, 77, 80, 82, 83, 84, 91, 95, 98, 99, 105, 109, 115, 117, 124, 131, 132, 133, 137, 139, 140]
theorem YL : Am ty bi Tryz.f18 = some b18 := by kernel_rfl
def c19 : C :=
(cOp t8 (AC (kV (.bool false)))
(cOp t14 (AL 59 [g0, g1, (kV (.int .i64 0))])
(cOp t15 (AN 0 g14)
(cOp t16 (AN 1 g14)
(cOp t9 (A9 5 Bx)
(cDo (AP 5 g9 g15)
(cOp t10 (AC g16)
(cOp t19 (AM iGt .i64 g2 (kV (.int .i64 0)))
(cOp t20 (oEq ty4.k false g10 g19)
(cG g20 true t22 (AE 2 g9)
(cG g20 true t23 (AG g22)
(cG g20 true t24 (AC g2)
(cG g20 true t25 (AM iEq .i64 g23 g24)
(cOp t26 (AW g20 g25 (kV (.bool false)))
(cG g26 true t28 (AE 4 g9)
(cG g26 true t29 (AG g28)
(cG g26 true t30 (Cb g29)
(cG g26 true t31 (AC g3)
(cG g26 true t32 (GG bEq g30 g31)
(cOp t33 (AW g26 g32 (kV (.bool false)))
(cOp t8 (AC g33)
AU)))))))))))))))))))))
def b19 : Body := ⟨[.t g8], c19⟩
def bj : List Nat := [11, 12, 13, 17, 18, 21, 27]
theorem YM : Am ty bj Tryz.f19 = some b19 := by kernel_rfl
def c20 : C :=
(cOp t8 (AC (kV (.int .i64 0)))
(cOp t12 (AL 48 [g0])
(cOp t9 (AC g12)
(cOp t14 (AM iNe .i64 g9 (kV (.int .i64 0)))
(AJ g14
(cOp t8 (AC g9)
AU)
(cOp t20 (AL 50 [g0, g1, g2, g3])
(cOp t10 (AC g20)
(Al (AK 0 (cOp t26 (AL 52 [g0, g1, g2, g3])
(cOp t21 (AC g26)
(AJ g21
(cOp t8 (AC (kV (.int .i64 61)))
AU)
(cOp t29 (AM iLt .i64 g10 (kV (.int .i64 0)))
(cOp t27 (AC g29)
(AJ g27
(cOp t8 (AC (kV (.int .i64 0)))
AU)
AO)))))))
(cOp t32 (AL 60 [g0, g10])
(cOp t8 (AC g32)
AU))))))))))
def b20 : Body := ⟨[.t g8], c20⟩
def bk : List Nat := [11, 13, 15, 16, 17, 18, 19, 22, 23, 24, 25, 28, 30, 31]
theorem YN : Am ty bk Tryz.f20 = some b20 := by kernel_rfl
def c21 : C :=
(cOp t2 (AC (kV (.slice none 0 0)))
(cOp t7 (oEq RD.k false g0 (kV (.pointer none)))
(AJ g7
(cOp t2 (AC (kV (.slice none 0 0)))
AU)
(cOp t3 (AC (kV (.slice none 0 0)))
(cOp t9 (BF g0)
(cOp t10 (AE 3 g9)
(cOp t11 (AG g10)
(cOp t12 (Aw g11)
(cOp t13 (AC (kV (.int .i64 0)))
(Al (AK 0 (Aj (cOp t14 (AM iLt .i64 g13 g12)
(AJ g14
(Al (AK 1 (cOp t15 (AY 6 g11 g13)
(cOp t16 (Ac 6 g15)
(cOp t5 (A9 6 RG)
(cDo (AP 6 g5 g16)
(cOp t18 (Ac 6 g5)
(cOp t19 (AL 61 [g18])
(cOp t20 (AX 1 (A6 Cv.zero 1) [(0, 5, g19)])
(cOp t21 (BB 5 56 25 g3 g20)
(cOp t3 (AC g21)
AO))))))))))
(cOp t22 (Ai .i64 (AQ .i64) g13 (kV (.int .i64 1)))
(cOp t13 (AC g22)
AO)))
(At 0)))))
(cOp t2 (AC g3)
AU)))))))))))
def b21 : Body := ⟨[.t g2], c21⟩
def bm : List Nat := [6, 8, 17, 23]
theorem YO : Am ty bm Tryz.f21 = some b21 := by kernel_rfl
def c22 : C :=
(cOp t2 (AC (kV (.int .i64 0)))
(cOp t4 (oEq RD.k false g0 (kV (.pointer none)))
(AJ g4
(cOp t2 (AC (kV (.int .i64 0)))
AU)
(cOp t6 (BF g0)
(cOp t7 (AE 5 g6)
(cOp t8 (AG g7)
(cOp t2 (AC g8)
AU)))))))
def b22 : Body := ⟨[.t g2], c22⟩
def bn : List Nat := [3, 5]
theorem YP : Am ty bn Tryz.f22 = some b22 := by kernel_rfl
def c23 : C :=
(cOp t2 (AC (kV (.int .u32 0)))
(cOp t4 (FE .u32 g0 (kV (.int .u64 1)))
(cOp t6 (DP Nat.land .u32 g0 (kV (.int .u32 1)))
(cOp t7 (As Int.mul .u32 (kV (.int .u32 2197175160)) g6)
(cOp t8 (DP Nat.xor .u32 g4 g7)
(cOp t2 (AC g8)
AU))))))
def b23 : Body := ⟨[.t g2], c23⟩
def bo : List Nat := [3, 5]
theorem YQ : Am ty bo Tryz.f23 = some b23 := by kernel_rfl
def c24 : C :=
(cOp t1 (CG g0)
(cOp t2 (AC (kV (.bool false)))
(cOp t3 (AE 0 g1)
(cOp t4 (AG g3)
(cOp t5 (AM iGe .i64 g4 (kV (.int .i64 0)))
(cG g5 true t7 (AE 0 g1)
(cG g5 true t8 (AG g7)
(cG g5 true t9 (AM iLe .i64 g8 (kV (.int .i64 1099511627776)))
(cOp t10 (AW g5 g9 (kV (.bool false)))
(cG g10 true t12 (AE 1 g1)
(cG g10 true t13 (AG g12)
(cG g10 true t14 (AM iGe .i64 g13 (kV (.int .i64 0)))
(cOp t15 (AW g10 g14 (kV (.bool false)))
(cG g15 true t17 (AE 1 g1)
(cG g15 true t18 (AG g17)
(cG g15 true t19 (AM iLt .i64 g18 (kV (.int .i64 255)))
(cOp t20 (AW g15 g19 (kV (.bool false)))
(cG g20 true t22 (AE 2 g1)
(cG g20 true t23 (AG g22)
(cG g20 true t24 (AM iGe .i64 g23 (kV (.int .i64 1)))
(cOp t25 (AW g20 g24 (kV (.bool false)))
(cG g25 true t27 (AE 2 g1)
(cG g25 true t28 (AG g27)
(cG g25 true t29 (AM iLe .i64 g28 (kV (.int .i64 1099511627776)))
(cOp t30 (AW g25 g29 (kV (.bool false)))
(cG g30 true t32 (AE 3 g1)
(cG g30 true t33 (AG g32)
(cG g30 true t34 (AM iEq .u8 g33 (kV (.int .u8 1)))
(cG g30 true t35 (AC g34)
(cG g35 false t36 (AE 3 g1)
(cG g35 false t37 (AG g36)
(cG g35 false t38 (AM iEq .u8 g37 (kV (.int .u8 2)))
(cG g30 true t39 (AW g35 (kV (.bool true)) g38)
(cOp t40 (AW g30 g39 (kV (.bool false)))
(cG g40 true t42 (AE 4 g1)
(cG g40 true t43 (AG g42)
(cG g40 true t44 (Aw g43)
(cG g40 true t45 (AM iLe .i64 g44 (kV (.int .i64 65536)))
(cOp t46 (AW g40 g45 (kV (.bool false)))
(cOp t2 (AC g46)
AU))))))))))))))))))))))))))))))))))))))))
def b24 : Body := ⟨[.t g2], c24⟩
def bp : List Nat := [6, 11, 16, 21, 26, 31, 41]
theorem YR : Am ty bp Tryz.f24 = some b24 := by kernel_rfl
def c25 : C :=
(cOp t4 (AC (kV (.int .u32 0)))
(cOp t8 (oEq Jm.k false g0 (kV (.pointer none)))
(AJ g8
(cOp t4 (AC (kV (.int .u32 0)))
AU)
(cOp t5 (AC (kV (.int .u32 4294967295)))
(cOp t10 (Aw g1)
(cOp t11 (AC (kV (.int .i64 0)))
(Al (AK 0 (Aj (cOp t12 (AM iLt .i64 g11 g10)
(AJ g12
(Al (AK 1 (cOp t6 (AC g11)
(Ar (cOp t16 (An .u8 g5)
(cOp t19 (AY 1 g1 g6)
(cOp t20 (AG g19)
(cOp t21 (DP Nat.xor .u8 g16 g20)
(cOp t22 (BF g0)
(cOp t23 (A4 256 1 g22 g21)
(cOp t24 (AG g23)
(cOp t26 (FE .u32 g5 (kV (.int .u64 8)))
(cOp t27 (DP Nat.xor .u32 g24 g26)
(cOp t5 (AC g27)
AO)))))))))))))
(cOp t28 (Ai .i64 (AQ .i64) g11 (kV (.int .i64 1)))
(cOp t11 (AC g28)
AO)))
(At 0)))))
(cOp t30 (As Int.sub .u32 (kV (.int .u32 4294967295)) g5)
(cOp t4 (AC g30)
AU)))))))))
def b25 : Body := ⟨[.t g4], c25⟩
def bq : List Nat := [7, 9, 13, 14, 15, 17, 18, 25, 29]
theorem YS : Am ty bq Tryz.f25 = some b25 := by kernel_rfl
def c26 : C :=
(cOp t4 (AC (kV (.slice none 0 0)))
(Al (AK 0 (Aj (cOp t6 (AM iGt .u64 g1 (kV (.int .u64 127)))
(AJ g6
(AK 1 (cOp t9 (GF .u64 g1 (kV (.int .u64 128)))
(cOp t10 (Ai .u64 (AQ .u64) g9 (kV (.int .u64 128)))
(cOp t11 (An .u8 g10)
(cOp t12 (AX 1 (A6 ty5.zero 1) [(0, 1, g11)])
(cOp t13 (BB 1 1 5 g0 g12)
(cOp t15 (Ch .u64 g1 (kV (.int .u64 128)))
(cOp t0 (AC g13)
(cOp t1 (AC g15)
AO)))))))))
(At 0)))))
(cOp t18 (An .u8 g1)
(cOp t19 (AX 1 (A6 ty5.zero 1) [(0, 1, g18)])
(cOp t20 (BB 1 1 5 g0 g19)
(cOp t4 (AC g20)
AU))))))
def b26 : Body := ⟨[.t g4], c26⟩
def bt : List Nat := [5, 7, 8, 14, 16, 17]
theorem YT : Am ty bt Tryz.f26 = some b26 := by kernel_rfl
def c27 : C :=
(cOp t4 (AC (kV (.slice none 0 0)))
(cOp t9 (Aw g1)
(cOp t10 (Ai .i64 (AQ .i64) g9 (kV (.int .i64 4)))
(cOp t11 (GL 1 ty5.zero g10 g10)
(cOp t5 (AC g11)
(cOp t14 (AL 25 [g0, g1])
(cOp t6 (AC g14)
(cOp t15 (AC (kV (.int .i64 0)))
(Al (AK 0 (Aj (cOp t16 (AM iLt .i64 g15 (kV (.int .i64 4)))
(AJ g16
(Al (AK 1 (cOp t7 (AC g15)
(cOp t20 (Aw g1)
(cOp t21 (Ai .i64 (AQ .i64) g20 (kV (.int .i64 4)))
(cOp t22 (As Int.sub .i64 g21 (kV (.int .i64 1)))
(cOp t24 (As Int.sub .i64 g22 g7)
(cOp t27 (As Int.mul .i64 (kV (.int .i64 8)) g7)
(cOp t28 (FE .u32 g6 g27)
(cOp t29 (An .u8 g28)
(cOp t30 (AY 1 g5 g24)
(cDo (AP 1 g30 g29)
AO)))))))))))
(cOp t31 (Ai .i64 (AQ .i64) g15 (kV (.int .i64 1)))
(cOp t15 (AC g31)
AO)))
(At 0)))))
(cOp t34 (G6 1 g5 g1)
(cOp t4 (AC g5)
AU)))))))))))
def b27 : Body := ⟨[.t g4], c27⟩
def bu : List Nat := [8, 12, 13, 17, 18, 19, 23, 25, 26, 32, 33, 35]
theorem YU : Am ty bu Tryz.f27 = some b27 := by kernel_rfl
def c28 : C :=
(cOp t1 (CG g0)
(cOp t2 (AC (kV (.bool false)))
(cOp t3 (AE 0 g1)
(cOp t4 (AG g3)
(cOp t5 (AM iGe .i64 g4 (kV (.int .i64 0)))
(cG g5 true t7 (AE 0 g1)
(cG g5 true t8 (AG g7)
(cG g5 true t9 (AM iLe .i64 g8 (kV (.int .i64 1099511627776)))
(cOp t10 (AW g5 g9 (kV (.bool false)))
(cG g10 true t12 (AE 1 g1)
(cG g10 true t13 (AG g12)
(cG g10 true t14 (AM iGe .i64 g13 (kV (.int .i64 0)))
(cOp t15 (AW g10 g14 (kV (.bool false)))
(cG g15 true t17 (AE 1 g1)
(cG g15 true t18 (AG g17)
(cG g15 true t19 (AM iLt .i64 g18 (kV (.int .i64 255)))
(cOp t20 (AW g15 g19 (kV (.bool false)))
(cG g20 true t22 (AE 2 g1)
(cG g20 true t23 (AG g22)
(cG g20 true t24 (AM iGe .i64 g23 (kV (.int .i64 1)))
(cOp t25 (AW g20 g24 (kV (.bool false)))
(cG g25 true t27 (AE 2 g1)
(cG g25 true t28 (AG g27)
(cG g25 true t29 (AM iLe .i64 g28 (kV (.int .i64 1099511627776)))
(cOp t30 (AW g25 g29 (kV (.bool false)))
(cG g30 true t32 (AE 3 g1)
(cG g30 true t33 (AG g32)
(cG g30 true t34 (AM iEq .u8 g33 (kV (.int .u8 1)))
(cG g30 true t35 (AC g34)
(cG g35 false t36 (AE 3 g1)
(cG g35 false t37 (AG g36)
(cG g35 false t38 (AM iEq .u8 g37 (kV (.int .u8 2)))
(cG g30 true t39 (AW g35 (kV (.bool true)) g38)
(cOp t40 (AW g30 g39 (kV (.bool false)))
(cG g40 true t42 (AE 4 g1)
(cG g40 true t43 (AG g42)
(cG g40 true t44 (Aw g43)
(cG g40 true t45 (AM iLe .i64 g44 (kV (.int .i64 65536)))
(cOp t46 (AW g40 g45 (kV (.bool false)))
(cOp t2 (AC g46)
AU))))))))))))))))))))))))))))))))))))))))
def b28 : Body := ⟨[.t g2], c28⟩
def bw : List Nat := [6, 11, 16, 21, 26, 31, 41]
theorem YV : Am ty bw Tryz.f28 = some b28 := by kernel_rfl
def c29 : C :=
(cOp t5 (CG g1)
(cOp t8 (AC (kV (.slice none 0 0)))
(cOp t10 (AE 3 g5)
(cOp t11 (AG g10)
(cOp t12 (An .u64 g11)
(cOp t13 (AL 62 [g12])
(cOp t9 (AC g13)
(cOp t15 (AE 0 g5)
(cOp t16 (AG g15)
(cOp t17 (An .u64 g16)
(cOp t18 (AL 63 [g9, g17])
(cOp t9 (AC g18)
(cOp t20 (AE 1 g5)
(cOp t21 (AG g20)
(cOp t22 (An .u64 g21)
(cOp t23 (AL 63 [g9, g22])
(cOp t9 (AC g23)
(cOp t25 (AE 2 g5)
(cOp t26 (AG g25)
(cOp t27 (An .u64 g26)
(cOp t28 (AL 63 [g9, g27])
(cOp t9 (AC g28)
(cOp t31 (An .u64 g2)
(cOp t32 (AL 63 [g9, g31])
(cOp t9 (AC g32)
(cOp t35 (An .u64 g3)
(cOp t36 (AL 63 [g9, g35])
(cOp t9 (AC g36)
(Al (AK 0 (Aj (cOp t38 (Aw g9)
(cOp t39 (AM iLt .i64 g38 (kV (.int .i64 60)))
(AJ g39
(AK 1 (cOp t41 (AX 1 (A6 ty5.zero 1) [(0, 1, (kV (.int .u8 0)))])
(cOp t42 (BB 1 1 5 g9 g41)
(cOp t9 (AC g42)
AO))))
(At 0))))))
(cOp t45 (AL 64 [g0, g9])
(cOp t8 (AC g45)
AU)))))))))))))))))))))))))))))))
def b29 : Body := ⟨[.t g8], c29⟩
def bz : List Nat := [14, 19, 24, 29, 30, 33, 34, 37, 40, 43, 44]
theorem YW : Am ty bz Tryz.f29 = some b29 := by kernel_rfl
def c30 : C :=
(cOp t4 (AC (kV (.int .u32 0)))
(cOp t9 (oEq Jm.k false g0 (kV (.pointer none)))
(AJ g9
(cOp t4 (AC (kV (.int .u32 0)))
AU)
(cOp t5 (AC (kV (.int .u32 4294967295)))
(cOp t6 (AC (kV (.int .i64 0)))
(Al (AK 0 (Aj (cOp t12 (Aw g1)
(cOp t13 (AM iLt .i64 g6 g12)
(AJ g13
(Al (AK 1 (cOp t17 (GF .u32 g5 (kV (.int .u32 256)))
(cOp t20 (AY 1 g1 g6)
(cOp t21 (AG g20)
(cOp t22 (An .u32 g21)
(cOp t23 (DP Nat.xor .u32 g17 g22)
(cOp t7 (AC g23)
(cOp t25 (Ch .u32 g5 (kV (.int .u32 256)))
(cOp t28 (BF g0)
(cOp t29 (A4 256 1 g28 g7)
(cOp t30 (AG g29)
(cOp t31 (DP Nat.xor .u32 g25 g30)
(cOp t5 (AC g31)
AO)))))))))))))
(cOp t15 (Ai .i64 (AQ .i64) g6 (kV (.int .i64 1)))
(cOp t6 (AC g15)
AO)))
(At 0))))))
(cOp t33 (As Int.sub .u32 (kV (.int .u32 4294967295)) g5)
(cOp t4 (AC g33)
AU))))))))
def b30 : Body := ⟨[.t g4], c30⟩
def cA : List Nat := [8, 10, 11, 14, 16, 18, 19, 24, 26, 27, 32]
theorem YX : Am ty cA Tryz.f30 = some b30 := by kernel_rfl
def c31 : C :=
(cOp t4 (AC (kV (.slice none 0 0)))
(cOp t5 (AC (kV (.int .i64 0)))
(cOp t8 (Aw g1)
(cOp t9 (AM iLt .i64 g8 (kV (.int .i64 4)))
(AJ g9
(cOp t4 (AC (kV (.slice none 0 0)))
(cOp t5 (AC (kV (.int .i64 11)))
AU))
(cOp t12 (Aw g1)
(cOp t13 (As Int.sub .i64 g12 (kV (.int .i64 4)))
(cOp t14 (EM 5 1 g1 none (some g13) none)
(cOp t15 (AL 49 [g14])
(cOp t6 (AC g15)
(Ar (cOp t18 (AS .weak (AL 27 [g0, g6]))
(cOp t19 (Cb g18)
(Cn g1 (B7 g1 []
(cOp t21 (Cb g1)
(cOp t22 (GG (fun a b => !bEq a b) g19 g21)
(AJ g22
(cOp t4 (AC (kV (.slice none 0 0)))
(cOp t5 (AC (kV (.int .i64 12)))
AU))
(cOp t4 (AC g6)
(cOp t5 (AC (kV (.int .i64 0)))
AU))))))))))))))))))))
def b31 : Body := ⟨[.t g4, .t g5], c31⟩
def cB : List Nat := [7, 10, 11, 16, 17, 20, 23]
theorem YY : Am ty cB Tryz.f31 = some b31 := by kernel_rfl
def c32 : C :=
(cOp t4 (AC (kV (.int .u64 0)))
(cOp t5 (AC (kV (.int .i64 0)))
(cOp t6 (AC (kV (.int .i64 0)))
(cOp t12 (AM iLt .i64 g1 (kV (.int .i64 0)))
(cG g12 false t14 (AC g1)
(cG g12 false t15 (AC g0)
(cG g12 false t16 (Aw g15)
(cG g12 false t17 (AM iGt .i64 g14 g16)
(cOp t18 (AW g12 (kV (.bool true)) g17)
(AJ g18
(cOp t4 (AC (kV (.int .u64 0)))
(cOp t5 (AC (kV (.int .i64 0)))
(cOp t6 (AC (kV (.int .i64 2)))
AU)))
(cOp t7 (AC (kV (.int .u64 0)))
(cOp t8 (AC g1)
(Al (AK 0 (Aj (cOp t22 (Aw g0)
(cOp t23 (AM iLt .i64 g8 g22)
(AJ g23
(Al (AK 1 (cOp t28 (AY 1 g0 g8)
(cOp t29 (AG g28)
(cOp t32 (As Int.sub .i64 g8 g1)
(cOp t9 (AC g29)
(cOp t10 (AC g32)
(cOp t34 (AM iGt .i64 g10 (kV (.int .i64 0)))
(cG g34 true t36 (AC g9)
(cG g34 true t37 (AM iEq .u8 g36 (kV (.int .u8 0)))
(cOp t38 (AW g34 g37 (kV (.bool false)))
(cG g38 false t40 (AC g10)
(cG g38 false t41 (AM iGt .i64 g40 (kV (.int .i64 8)))
(cG g38 false t42 (AC g41)
(cG g42 true t43 (AC g9)
(cG g42 true t44 (AM iGt .u8 g43 (kV (.int .u8 1)))
(cG g38 false t45 (AW g42 g44 (kV (.bool false)))
(cOp t46 (AW g38 (kV (.bool true)) g45)
(AJ g46
(cOp t4 (AC (kV (.int .u64 0)))
(cOp t5 (AC (kV (.int .i64 0)))
(cOp t6 (AC (kV (.int .i64 10)))
AU)))
(cOp t49 (GF .u8 g9 (kV (.int .u8 128)))
(cOp t50 (An .u64 g49)
(cOp t52 (As Int.mul .i64 (kV (.int .i64 7)) g10)
(cOp t53 (Ga .u64 g50 g52)
(cOp t54 (Ai .u64 (AQ .u64) g7 g53)
(cOp t7 (AC g54)
(cOp t56 (AM iLt .u8 g9 (kV (.int .u8 128)))
(AJ g56
(cOp t59 (Ai .i64 (AQ .i64) g8 (kV (.int .i64 1)))
(cOp t4 (AC g7)
(cOp t5 (AC g59)
(cOp t6 (AC (kV (.int .i64 0)))
AU))))
AO))))))))))))))))))))))))))
(cOp t25 (Ai .i64 (AQ .i64) g8 (kV (.int .i64 1)))
(cOp t8 (AC g25)
AO)))
(At 0))))))
(cOp t4 (AC (kV (.int .u64 0)))
(cOp t5 (AC (kV (.int .i64 0)))
(cOp t6 (AC (kV (.int .i64 11)))
AU))))))))))))))))
def b32 : Body := ⟨[.t g4, .t g5, .t g6], c32⟩
def cC : List Nat := [11, 13, 19, 20, 21, 24, 26, 27, 30, 31, 33, 35, 39, 47, 48, 51, 55, 57, 58]
theorem YZ : Am ty cC Tryz.f32 = some b32 := by kernel_rfl
def c33 : C :=
(cOp t2 (AC (kV (.bool false)))
(cOp t4 (AM iNe .u8 g0 (kV (.int .u8 0)))
(cOp t2 (AC g4)
AU)))
def b33 : Body := ⟨[.t g2], c33⟩
def cD : List Nat := [3]
theorem Ya : Am ty cD Tryz.f33 = some b33 := by kernel_rfl
def c34 : C :=
(cOp t4 (AC (kV (.bool false)))
(cOp t7 (AL 65 [g0, g1])
(cOp t8 (AM iGe .i64 g7 (kV (.int .i64 0)))
(cOp t4 (AC g8)
AU))))
def b34 : Body := ⟨[.t g4], c34⟩
def cE : List Nat := [5, 6]
theorem Yb : Am ty cE Tryz.f34 = some b34 := by kernel_rfl
def c35 : C :=
(cOp t4 (AC (kV (.int .u64 0)))
(cOp t5 (AC (kV (.int .i64 0)))
(cOp t6 (AC (kV (.int .i64 0)))
(cOp t12 (AM iLt .i64 g1 (kV (.int .i64 0)))
(cG g12 false t14 (AC g1)
(cG g12 false t15 (AC g0)
(cG g12 false t16 (Aw g15)
(cG g12 false t17 (AM iGt .i64 g14 g16)
(cOp t18 (AW g12 (kV (.bool true)) g17)
(AJ g18
(cOp t4 (AC (kV (.int .u64 0)))
(cOp t5 (AC (kV (.int .i64 0)))
(cOp t6 (AC (kV (.int .i64 2)))
AU)))
(cOp t7 (AC (kV (.int .u64 0)))
(cOp t8 (AC (kV (.int .u64 1)))
(cOp t9 (AC (kV (.int .i64 0)))
(AK 0 (Aj (AK 1 (cOp t21 (Ai .i64 (AQ .i64) g1 g9)
(cOp t23 (Aw g0)
(cOp t24 (AM iEq .i64 g21 g23)
(AJ g24
(cOp t4 (AC (kV (.int .u64 0)))
(cOp t5 (AC (kV (.int .i64 0)))
(cOp t6 (AC (kV (.int .i64 11)))
AU)))
(cOp t28 (Ai .i64 (AQ .i64) g1 g9)
(cOp t29 (AY 1 g0 g28)
(cOp t30 (AG g29)
(cOp t10 (AC g30)
(cOp t32 (Ai .i64 (AQ .i64) g9 (kV (.int .i64 1)))
(cOp t9 (AC g32)
(cOp t34 (AM iGt .i64 g9 (kV (.int .i64 1)))
(cG g34 true t36 (AC g10)
(cG g34 true t37 (AM iEq .u8 g36 (kV (.int .u8 0)))
(cOp t38 (AW g34 g37 (kV (.bool false)))
(cG g38 false t40 (AC g9)
(cG g38 false t41 (AM iEq .i64 g40 (kV (.int .i64 10)))
(cG g38 false t42 (AC g41)
(cG g42 true t43 (AC g10)
(cG g42 true t44 (AM iGt .u8 g43 (kV (.int .u8 1)))
(cG g38 false t45 (AW g42 g44 (kV (.bool false)))
(cOp t46 (AW g38 (kV (.bool true)) g45)
(AJ g46
(cOp t4 (AC (kV (.int .u64 0)))
(cOp t5 (AC (kV (.int .i64 0)))
(cOp t6 (AC (kV (.int .i64 10)))
AU)))
(cOp t48 (AM iLt .u8 g10 (kV (.int .u8 128)))
(AJ g48
(cOp t52 (An .u64 g10)
(cOp t53 (As Int.mul .u64 g8 g52)
(cOp t54 (Ai .u64 (AQ .u64) g7 g53)
(cOp t57 (Ai .i64 (AQ .i64) g1 g9)
(cOp t4 (AC g54)
(cOp t5 (AC g57)
(cOp t6 (AC (kV (.int .i64 0)))
AU)))))))
(cOp t61 (As Int.sub .u8 g10 (kV (.int .u8 128)))
(cOp t62 (An .u64 g61)
(cOp t63 (As Int.mul .u64 g8 g62)
(cOp t64 (Ai .u64 (AQ .u64) g7 g63)
(cOp t7 (AC g64)
(cOp t66 (As Int.mul .u64 g8 (kV (.int .u64 128)))
(cOp t8 (AC g66)
AO)))))))))))))))))))))))))))))))))))))))))))))))
def b35 : Body := ⟨[.t g4, .t g5, .t g6], c35⟩
def cF : List Nat := [11, 13, 19, 20, 22, 25, 26, 27, 31, 33, 35, 39, 47, 49, 50, 51, 55, 56, 58, 59, 60, 65]
theorem Yc : Am ty cF Tryz.f35 = some b35 := by kernel_rfl
def c36 : C :=
(cOp t4 (AC (kV (.bool false)))
(cOp t7 (Aw g0)
(cOp t9 (Aw g1)
(cOp t10 (AM iNe .i64 g7 g9)
(AJ g10
(cOp t4 (AC (kV (.bool false)))
AU)
(cOp t5 (AC (kV (.int .i64 0)))
(Al (AK 0 (Aj (cOp t13 (Aw g0)
(cOp t14 (AM iLt .i64 g5 g13)
(AJ g14
(Al (AK 1 (Ar (cOp t19 (AY 1 g0 g5)
(cOp t20 (AG g19)
(cOp t23 (AY 1 g1 g5)
(cOp t24 (AG g23)
(cOp t25 (AM iNe .u8 g20 g24)
(AJ g25
(cOp t4 (AC (kV (.bool false)))
AU)
AO))))))))
(cOp t16 (Ai .i64 (AQ .i64) g5 (kV (.int .i64 1)))
(cOp t5 (AC g16)
AO)))
(At 0))))))
(cOp t4 (AC (kV (.bool true)))
AU))))))))
def b36 : Body := ⟨[.t g4], c36⟩
def cH : List Nat := [6, 8, 11, 12, 15, 17, 18, 21, 22]
theorem Yd : Am ty cH Tryz.f36 = some b36 := by kernel_rfl
def c37 : C :=
(cOp t2 (AC (kV (.int .i64 0)))
(cOp t4 (AL 66 [g0])
(AJ g4
(cOp t2 (AC (kV (.int .i64 0)))
AU)
(cOp t6 (BF g0)
(cOp t7 (AE 0 g6)
(cOp t8 (AG g7)
(cOp t9 (Aw g8)
(cOp t2 (AC g9)
AU))))))))
def b37 : Body := ⟨[.t g2], c37⟩
def cI : List Nat := [3, 5]
theorem Ye : Am ty cI Tryz.f37 = some b37 := by kernel_rfl
def c38 : C :=
(cOp t2 (AC (kV (.bool false)))
(cOp t4 (AL 66 [g0])
(cOp t5 (Bo g4)
(cG g5 true t7 (AC g0)
(cG g5 true t8 (BF g7)
(cG g5 true t9 (AE 3 g8)
(cG g5 true t10 (AG g9)
(cOp t11 (AW g5 g10 (kV (.bool false)))
(cOp t2 (AC g11)
AU)))))))))
def b38 : Body := ⟨[.t g2], c38⟩
def cJ : List Nat := [3, 6]
theorem Yf : Am ty cJ Tryz.f38 = some b38 := by kernel_rfl
def c39 : C :=
(cOp t4 (A9 6 RG)
(cOp t5 (AC (kV (.bool false)))
(cOp t6 (AC (kV (.bool false)))
(cOp t7 (AC (kV (.int .i64 0)))
(Ar (cOp t17 (BF g0)
(cOp t18 (AE 0 g17)
(Cn g18 (B7 g18 []
(cOp t19 (AG g18)
(cOp t22 (AS .weak (AL 54 [g0, g1]))
(cOp t23 (AS .free (AL 67 [g19, g22]))
(cOp t24 (AN 0 g23)
(cOp t25 (AN 1 g23)
(cOp t8 (AC g24)
(cOp t9 (AC g25)
(cOp t27 (AM iNe .i64 g9 (kV (.int .i64 0)))
(AJ g27
(cOp t28 (BA IL.zero [])
(cDo (AP 6 g4 g28)
(cOp t5 (AC (kV (.bool false)))
(cOp t6 (AC (kV (.bool false)))
(cOp t7 (AC g9)
AU)))))
(cOp t31 (AL 34 [g8, (kV (.func (.func 68) #[] #[]))])
(cOp t32 (Bo g31)
(cOp t10 (AC g32)
(cOp t35 (BF g0)
(cOp t36 (AE 1 g35)
(cOp t37 (AG g36)
(cOp t39 (AL 11 [g37, g8])
(cOp t40 (AN 0 g39)
(cOp t41 (AN 1 g39)
(cOp t42 (AN 2 g39)
(cOp t43 (AN 3 g39)
(cOp t11 (A9 5 Bx)
(cDo (AP 5 g11 g40)
(cOp t12 (AC g41)
(cOp t13 (AC g42)
(cOp t14 (AC g43)
(cOp t45 (Bo g14)
(cG g45 false t47 (AC g12)
(cG g45 false t48 (AC g0)
(cG g45 false t49 (BF g48)
(cG g45 false t50 (AE 2 g49)
(cG g45 false t51 (AG g50)
(cG g45 false t52 (AM iGt .i64 g47 g51)
(cOp t53 (AW g45 (kV (.bool true)) g52)
(AJ g53
(cOp t54 (BA IL.zero [])
(cOp t56 (Bo g10)
(cDo (AP 6 g4 g54)
(cOp t5 (AC (kV (.bool false)))
(cOp t6 (AC g56)
(cOp t7 (AC (kV (.int .i64 0)))
AU))))))
(cOp t61 (AL 69 [g0, g1, g12])
(cOp t62 (AN 0 g61)
(cOp t63 (AN 1 g61)
(cOp t64 (AE 4 g11)
(cDo (AP 1 g64 g62)
(cOp t9 (AC g63)
(cOp t66 (AM iNe .i64 g9 (kV (.int .i64 0)))
(AJ g66
(cOp t67 (BA IL.zero [])
(cDo (AP 6 g4 g67)
(cOp t5 (AC (kV (.bool false)))
(cOp t6 (AC (kV (.bool false)))
(cOp t7 (AC g9)
AU)))))
(Ar (cOp t70 (BF g0)
(cOp t71 (AE 1 g70)
(cOp t72 (AG g71)
(cOp t73 (AE 4 g11)
(cOp t74 (AG g73)
(cOp t75 (AS .free (AL 25 [g72, g74]))
(cOp t77 (AM iNe .u32 g75 g13)
(AJ g77
(cOp t78 (BA IL.zero [])
(cDo (AP 6 g4 g78)
(cOp t5 (AC (kV (.bool false)))
(cOp t6 (AC (kV (.bool true)))
(cOp t7 (AC (kV (.int .i64 0)))
AU)))))
(cOp t79 (Ac 5 g11)
(cOp t81 (BA IL.zero [(0, 5, g79), (5, 1, g1)])
(cDo (AP 6 g4 g81)
(cOp t5 (AC (kV (.bool true)))
(cOp t6 (AC (kV (.bool false)))
(cOp t7 (AC (kV (.int .i64 0)))
AU))))))))))))))))))))))))))))))))))))))))))))))))))))))))))))))))))
def b39 : Body := ⟨[.cN g4 6, .t g5, .t g6, .t g7], c39⟩
def cK : List Nat := [15, 16, 20, 21, 26, 29, 30, 33, 34, 38, 44, 46, 55, 57, 58, 59, 60, 65, 68, 69, 76, 80]
theorem Yg : Am ty cK Tryz.f39 = some b39 := by kernel_rfl
def c40 : C :=
(cOp t6 (Aw g0)
(cOp t4 (AC g6)
(cOp t10 (An .u64 g4)
(cOp t11 (AL 71 [g10])
(cOp t13 (AL 70 [g0, (kV (.int .i64 0)), g4, g11, g1])
AO)))))
def b40 : Body := ⟨[], c40⟩
def cL : List Nat := [5, 7, 8, 9, 12]
theorem Yh : Am ty cL Tryz.f40 = some b40 := by kernel_rfl
def c41 : C :=
(cOp t2 (CG g0)
(cOp t3 (CG g1)
(cOp t4 (AC (kV (.int .i64 0)))
(Ar (cOp t5 (AE 0 g2)
(cOp t6 (AE 0 g5)
(cOp t7 (AG g6)
(cOp t8 (AE 0 g3)
(cOp t9 (AE 0 g8)
(cOp t10 (AG g9)
(cOp t11 (AS .weak (AL 73 [g7, g10]))
(cOp t12 (AE 0 g2)
(cOp t13 (AE 1 g12)
(Cn g13 (B7 g13 []
(cOp t14 (AG g13)
(cOp t15 (AE 0 g3)
(cOp t16 (AE 1 g15)
(Cn g16 (B7 g16 []
(cOp t17 (AG g16)
(cOp t18 (AS .weak (AL 73 [g14, g17]))
(cOp t19 (AE 0 g2)
(cOp t20 (AE 2 g19)
(Cn g20 (B7 g20 []
(cOp t21 (AG g20)
(cOp t22 (AE 0 g3)
(cOp t23 (AE 2 g22)
(Cn g23 (B7 g23 []
(cOp t24 (AG g23)
(cOp t25 (AS .weak (AL 73 [g21, g24]))
(cOp t26 (AE 5 g2)
(Cn g26 (B7 g26 []
(cOp t27 (AG g26)
(cOp t28 (AE 5 g3)
(Cn g28 (B7 g28 []
(cOp t29 (AG g28)
(cOp t30 (AS .free (AL 73 [g27, g29]))
(cOp t31 (AS .strong (AX 4 (A6 ty3.zero 4) [(0, 1, g11), (1, 1, g18), (2, 1, g25), (3, 1, g30)]))
(cOp t32 (AS .free (AL 72 [g31]))
(cOp t4 (AC g32)
AU)))))))))))))))))))))))))))))))))))))))))))))
def b41 : Body := ⟨[.t g4], c41⟩
def cM : List Nat := []
theorem Yi : Am ty cM Tryz.f41 = some b41 := by kernel_rfl
def c42 : C :=
(cOp t2 (AC (kV (.slice none 0 0)))
(cOp t3 (AC (kV (.slice none 0 0)))
(cOp t8 (AC g0)
(cOp t9 (Aw g8)
(cOp t10 (AC (kV (.int .i64 0)))
(Al (AK 0 (Aj (cOp t11 (AM iLt .i64 g10 g9)
(AJ g11
(Al (AK 1 (cOp t13 (AY 6 g8 g10)
(cOp t14 (Ac 6 g13)
(cOp t5 (A9 6 RG)
(cOp t4 (AC g10)
(cDo (AP 6 g5 g14)
(cOp t15 (D6 (.func 74) [] [g5])
(cOp t6 (AC g15)
(cOp t16 (D6 (.func 75) [] [g5])
(cOp t7 (AC g16)
(cOp t19 (AL 44 [g0, g6])
(cOp t20 (Bo g19)
(cG g20 true t22 (AC g0)
(cG g20 true t23 (AC g4)
(cG g20 true t24 (EM 77 6 g22 none (some g23) none)
(cG g20 true t25 (AC g7)
(cG g20 true t26 (AL 44 [g24, g25])
(cG g20 true t27 (Bo g26)
(cOp t28 (AW g20 g27 (kV (.bool false)))
(AJ g28
(cOp t30 (Ac 6 g5)
(cOp t31 (AX 1 (A6 IL.zero 1) [(0, 6, g30)])
(cOp t32 (BB 6 64 77 g3 g31)
(cOp t3 (AC g32)
AO))))
AO))))))))))))))))))))
(cOp t33 (Ai .i64 (AQ .i64) g10 (kV (.int .i64 1)))
(cOp t10 (AC g33)
AO)))
(At 0)))))
(cOp t2 (AC g3)
AU)))))))
def b42 : Body := ⟨[.t g2], c42⟩
def cP : List Nat := [12, 17, 18, 21, 29, 34]
theorem Yj : Am ty cP Tryz.f42 = some b42 := by kernel_rfl
def c43 : C :=
(cOp t2 (CG g0)
(cOp t3 (AC (kV (.bool false)))
(cOp t4 (AG g1)
(cOp t5 (BF g4)
(cOp t6 (AE 3 g5)
(cOp t7 (AG g6)
(cOp t8 (D6 (.func 45) [] [g2])
(cOp t9 (AL 44 [g7, g8])
(cOp t3 (AC g9)
AU)))))))))
def b43 : Body := ⟨[.t g3], c43⟩
def cQ : List Nat := []
theorem Yk : Am ty cQ Tryz.f43 = some b43 := by kernel_rfl
def c44 : C :=
(cOp t4 (AC (kV (.bool false)))
(cOp t7 (AL 76 [g0, g1])
(cOp t8 (AM iGe .i64 g7 (kV (.int .i64 0)))
(cOp t4 (AC g8)
AU))))
def b44 : Body := ⟨[.t g4], c44⟩
def cR : List Nat := [5, 6]
theorem Yl : Am ty cR Tryz.f44 = some b44 := by kernel_rfl
def c45 : C :=
(cOp t2 (CG g0)
(cOp t3 (AC (kV (.bool false)))
(cOp t4 (AE 5 g2)
(cOp t5 (AG g4)
(cOp t6 (AG g1)
(cOp t7 (AM iEq .i64 g5 g6)
(cOp t3 (AC g7)
AU)))))))
def b45 : Body := ⟨[.t g3], c45⟩
def cS : List Nat := []
theorem Ym : Am ty cS Tryz.f45 = some b45 := by kernel_rfl
def c46 : C :=
(cOp t4 (AC (kV (.bool false)))
(cOp t7 (AL 77 [g0, g1])
(cOp t8 (AM iGe .i64 g7 (kV (.int .i64 0)))
(cOp t4 (AC g8)
AU))))
def b46 : Body := ⟨[.t g4], c46⟩
def cT : List Nat := [5, 6]
theorem Yn : Am ty cT Tryz.f46 = some b46 := by kernel_rfl
def c47 : C :=
(cOp t2 (CG g0)
(cOp t4 (AC (kV (.int .i64 0)))
(cOp t9 (Aw g1)
(cOp t10 (AM iEq .i64 g9 (kV (.int .i64 0)))
(AJ g10
(cOp t4 (AC (kV (.int .i64 0)))
AU)
(cOp t5 (AC (kV (.slice none 0 0)))
(cOp t11 (AC g1)
(cOp t12 (Aw g11)
(cOp t13 (AC (kV (.int .i64 0)))
(Al (AK 0 (Aj (cOp t14 (AM iLt .i64 g13 g12)
(AJ g14
(Al (AK 1 (cOp t15 (AY 1 g11 g13)
(cOp t16 (AG g15)
(cOp t7 (A9 1 zt3)
(cDo (AP 1 g7 g16)
(cOp t18 (D6 (.func 78) [] [g2, g7])
(cOp t19 (AX 1 (A6 Tx.zero 1) [(0, 1, g18)])
(cOp t20 (BB 1 8 88 g5 g19)
(cOp t5 (AC g20)
AO)))))))))
(cOp t21 (Ai .i64 (AQ .i64) g13 (kV (.int .i64 1)))
(cOp t13 (AC g21)
AO)))
(At 0)))))
(Ar (cOp t22 (AG g2)
(cOp t24 (AG g2)
(cOp t25 (BF g24)
(cOp t26 (AE 0 g25)
(cOp t27 (AG g26)
(cOp t28 (D6 (.func 80) [g27] [])
(cOp t29 (AS .strong (AX 1 (A6 Tx.zero 1) [(0, 1, g28)]))
(B7 g5 [g2]
(cOp t30 (Hm g5 (BB 1 8 88 g5 g29))
(cOp t31 (AS .free (AL 55 [g22, g30]))
(cOp t4 (AC g31)
AU))))))))))))))))))))))
def b47 : Body := ⟨[.t g4], c47⟩
def cU : List Nat := [8, 17, 23]
theorem Yo : Am ty cU Tryz.f47 = some b47 := by kernel_rfl
def c48 : C :=
(cOp t2 (AC (kV (.int .i64 0)))
(Al (AK 0 (cOp t5 (oEq RD.k false g0 (kV (.pointer none)))
(cG g5 false t7 (AC g0)
(cG g5 false t8 (BF g7)
(cG g5 false t9 (AE 0 g8)
(cG g5 false t10 (AG g9)
(cG g5 false t11 (oEq bQ.k false g10 (kV (.pointer none)))
(cOp t12 (AW g5 (kV (.bool true)) g11)
(cOp t3 (AC g12)
(AJ g3
(cOp t2 (AC (kV (.int .i64 1)))
AU)
(cOp t15 (BF g0)
(cOp t16 (AE 6 g15)
(cOp t17 (AG g16)
(cOp t13 (AC g17)
(AJ g13
(cOp t2 (AC (kV (.int .i64 17)))
AU)
AO)))))))))))))))
(cOp t2 (AC (kV (.int .i64 0)))
AU)))
def b48 : Body := ⟨[.t g2], c48⟩
def cV : List Nat := [4, 6, 14]
theorem Yp : Am ty cV Tryz.f48 = some b48 := by kernel_rfl
def c49 : C :=
(cOp t2 (AC (kV (.slice none 0 0)))
(cOp t4 (oEq HL.k false g0 (kV (.slice none 0 0)))
(AJ g4
(cOp t2 (AC (kV (.slice none 0 0)))
AU)
(cOp t5 (AX 0 (A6 ty5.zero 0) [])
(cOp t7 (BB 1 1 5 g5 g0)
(cOp t2 (AC g7)
AU))))))
def b49 : Body := ⟨[.t g2], c49⟩
def cW : List Nat := [3, 6]
theorem Yq : Am ty cW Tryz.f49 = some b49 := by kernel_rfl
def c50 : C :=
(cOp t5 (CG g1)
(cOp t6 (CG g2)
(cOp t7 (CG g3)
(cOp t8 (AC (kV (.int .i64 0)))
(cOp t10 (BF g0)
(cOp t11 (AE 3 g10)
(cOp t12 (AG g11)
(cOp t13 (D6 (.func 81) [] [g5, g6, g7])
(cOp t14 (AL 76 [g12, g13])
(cOp t8 (AC g14)
AU))))))))))
def b50 : Body := ⟨[.t g8], c50⟩
def cX : List Nat := [9]
theorem Yr : Am ty cX Tryz.f50 = some b50 := by kernel_rfl
def c51 : C :=
(cOp t4 (AC (kV (.bool false)))
(cOp t7 (Aw g0)
(cOp t9 (Aw g1)
(cOp t10 (AM iNe .i64 g7 g9)
(AJ g10
(cOp t4 (AC (kV (.bool false)))
AU)
(cOp t12 (Aw g0)
(cOp t13 (AC (kV (.int .i64 0)))
(Al (AK 0 (Aj (cOp t14 (AM iLt .i64 g13 g12)
(AJ g14
(Al (AK 1 (cOp t5 (AC g13)
(Ar (cOp t18 (AY 1 g0 g5)
(cOp t19 (AG g18)
(cOp t22 (AY 1 g1 g5)
(cOp t23 (AG g22)
(cOp t24 (AM iNe .u8 g19 g23)
(AJ g24
(cOp t4 (AC (kV (.bool false)))
AU)
AO)))))))))
(cOp t25 (Ai .i64 (AQ .i64) g13 (kV (.int .i64 1)))
(cOp t13 (AC g25)
AO)))
(At 0)))))
(cOp t4 (AC (kV (.bool true)))
AU)))))))))
def b51 : Body := ⟨[.t g4], c51⟩
def cY : List Nat := [6, 8, 11, 15, 16, 17, 20, 21]
theorem Ys : Am ty cY Tryz.f51 = some b51 := by kernel_rfl
def c52 : C :=
(cOp t8 (AC (kV (.bool false)))
(cOp t13 (AL 82 [g0, g1, g2])
(cOp t9 (AC g13)
(cOp t15 (AM iGe .i64 g9 (kV (.int .i64 0)))
(cG g15 true t17 (AC g0)
(cG g15 true t18 (BF g17)
(cG g15 true t19 (AE 3 g18)
(cG g15 true t20 (AG g19)
(cG g15 true t21 (AC g9)
(cG g15 true t22 (AY 6 g20 g21)
(cG g15 true t23 (AE 0 g22)
(cG g15 true t24 (AE 2 g23)
(cG g15 true t25 (AG g24)
(cG g15 true t26 (AC g3)
(cG g15 true t27 (AM iGe .i64 g25 g26)
(cOp t28 (AW g15 g27 (kV (.bool false)))
(cOp t8 (AC g28)
AU)))))))))))))))))
def b52 : Body := ⟨[.t g8], c52⟩
def cZ : List Nat := [10, 11, 12, 14, 16]
theorem Yt : Am ty cZ Tryz.f52 = some b52 := by kernel_rfl
def c53 : C :=
(cOp t3 (CG g0)
(cOp t6 (AC (kV (.slice none 0 0)))
(cOp t7 (AC (kV (.slice none 0 0)))
(cOp t8 (AC (kV (.int .i64 0)))
(Al (AK 0 (Aj (cOp t13 (Aw g2)
(cOp t14 (AM iLt .i64 g8 g13)
(AJ g14
(Al (AK 1 (cOp t17 (GL 1 ty5.zero (kV (.int .i64 64)) (kV (.int .i64 64)))
(cOp t9 (A9 1 qv)
(cDo (AP 1 g9 g17)
(Ar (cOp t18 (AG g9)
(cOp t21 (EM 5 1 g2 (some g8) none none)
(cOp t22 (AS .free (G6 1 g18 g21))
(cOp t25 (Ch .i64 g8 (kV (.int .i64 64)))
(cOp t26 (Ai .i64 (AQ .i64) g1 g25)
(cOp t10 (A9 1 zt3)
(cDo (AP 1 g10 g26)
(cOp t28 (D6 (.func 83) [] [g3, g10, g9])
(cOp t29 (AX 1 (A6 Tx.zero 1) [(0, 1, g28)])
(cOp t30 (BB 1 8 88 g7 g29)
(cOp t7 (AC g30)
AO))))))))))))))))
(cOp t16 (Ai .i64 (AQ .i64) g8 (kV (.int .i64 64)))
(cOp t8 (AC g16)
AO)))
(At 0))))))
(cOp t32 (AG g3)
(cOp t33 (BF g32)
(cOp t34 (AE 0 g33)
(cOp t35 (AG g34)
(cOp t36 (D6 (.func 80) [g35] [])
(cOp t37 (AX 1 (A6 Tx.zero 1) [(0, 1, g36)])
(cOp t38 (BB 1 8 88 g7 g37)
(cOp t6 (AC g38)
AU)))))))))))))
def b53 : Body := ⟨[.t g6], c53⟩
def cd : List Nat := [11, 12, 15, 19, 20, 23, 24, 27, 31]
theorem Yu : Am ty cd Tryz.f53 = some b53 := by kernel_rfl
def c54 : C :=
(cOp t4 (AC (kV (.int .i64 0)))
(cOp t7 (BF g0)
(cOp t8 (AE 2 g7)
(cOp t9 (AG g8)
(cOp t10 (AL 9 [g9])
(cOp t11 (As Int.mul .i64 g1 g10)
(cOp t4 (AC g11)
AU)))))))
def b54 : Body := ⟨[.t g4], c54⟩
def ce : List Nat := [5, 6]
theorem Yv : Am ty ce Tryz.f54 = some b54 := by kernel_rfl
def c55 : C :=
(cOp t4 (AC (kV (.int .i64 0)))
(cOp t8 (AC g1)
(cOp t9 (Aw g8)
(cOp t10 (AC (kV (.int .i64 0)))
(Al (AK 0 (Aj (cOp t11 (AM iLt .i64 g10 g9)
(AJ g11
(Al (AK 1 (cOp t12 (AY 1 g8 g10)
(cOp t13 (AG g12)
(cOp t6 (AC g13)
(cOp t15 (B8 g6 [])
(cOp t7 (AC g15)
(cOp t17 (AM iNe .i64 g7 (kV (.int .i64 0)))
(AJ g17
(cOp t19 (BF g0)
(cOp t20 (AE 6 g19)
(cDo (AP 1 g20 (kV (.bool true)))
(cOp t4 (AC g7)
AU))))
AO))))))))
(cOp t22 (Ai .i64 (AQ .i64) g10 (kV (.int .i64 1)))
(cOp t10 (AC g22)
AO)))
(At 0)))))
(cOp t4 (AC (kV (.int .i64 0)))
AU))))))
def b55 : Body := ⟨[.t g4], c55⟩
def cf : List Nat := [14, 16, 18, 21]
theorem Yw : Am ty cf Tryz.f55 = some b55 := by kernel_rfl
def c56 : C :=
(cOp t2 (AC (kV (.slice none 0 0)))
(cOp t4 (oEq iB.k false g0 (kV (.slice none 0 0)))
(AJ g4
(cOp t2 (AC (kV (.slice none 0 0)))
AU)
(cOp t5 (AX 0 (A6 ty3.zero 0) [])
(cOp t7 (BB 1 8 3 g5 g0)
(cOp t2 (AC g7)
AU))))))
def b56 : Body := ⟨[.t g2], c56⟩
def cg : List Nat := [3, 6]
theorem Yx : Am ty cg Tryz.f56 = some b56 := by kernel_rfl
def c57 : C :=
(cOp t2 (AC (kV (.slice none 0 0)))
(cOp t4 (oEq iA.k false g0 (kV (.slice none 0 0)))
(AJ g4
(cOp t2 (AC (kV (.slice none 0 0)))
AU)
(cOp t5 (AX 0 (A6 IL.zero 0) [])
(cOp t7 (BB 6 64 77 g5 g0)
(cOp t2 (AC g7)
AU))))))
def b57 : Body := ⟨[.t g2], c57⟩
def ch : List Nat := [3, 6]
theorem Yy : Am ty ch Tryz.f57 = some b57 := by kernel_rfl
def c58 : C :=
(cOp t4 (AC (kV (.int .i64 0)))
(cOp t7 (BF g0)
(cOp t8 (AE 3 g7)
(cOp t9 (AG g8)
(cOp t11 (AY 6 g9 g1)
(cOp t12 (AE 5 g11)
(cOp t13 (AG g12)
(cOp t5 (AC g13)
(cOp t16 (BF g0)
(cOp t17 (AE 3 g16)
(cOp t18 (AG g17)
(cOp t19 (AL 57 [g18])
(cOp t22 (Ai .i64 (AQ .i64) g1 (kV (.int .i64 1)))
(cOp t23 (AL 84 [g19, g1, g22])
(cOp t24 (BF g0)
(cOp t25 (AE 3 g24)
(cDo (AP 1 g25 g23)
(cOp t28 (BF g0)
(cOp t29 (AE 4 g28)
(cOp t30 (AG g29)
(cOp t31 (AL 56 [g30])
(cOp t33 (AX 1 (A6 ty3.zero 1) [(0, 1, g5)])
(cOp t34 (BB 1 8 3 g31 g33)
(cOp t35 (BF g0)
(cOp t36 (AE 4 g35)
(cDo (AP 1 g36 g34)
(cOp t38 (BF g0)
(cOp t39 (AE 4 g38)
(cOp t40 (AG g39)
(cOp t41 (AL 85 [g40])
(cOp t4 (AC g5)
AU)))))))))))))))))))))))))))))))
def b58 : Body := ⟨[.t g4], c58⟩
def ci : List Nat := [6, 10, 14, 15, 20, 21, 26, 27, 32, 37, 42]
theorem Yz : Am ty ci Tryz.f58 = some b58 := by kernel_rfl
def c59 : C :=
(cOp t6 (A9 5 Bx)
(cOp t7 (AC (kV (.bool false)))
(cOp t10 (oEq RD.k false g0 (kV (.pointer none)))
(AJ g10
(cOp t11 (BA Cv.zero [])
(cDo (AP 5 g6 g11)
(cOp t7 (AC (kV (.bool false)))
AU)))
(cOp t15 (AL 82 [g0, g1, g2])
(cOp t8 (AC g15)
(cOp t17 (AM iLt .i64 g8 (kV (.int .i64 0)))
(AJ g17
(cOp t18 (BA Cv.zero [])
(cDo (AP 5 g6 g18)
(cOp t7 (AC (kV (.bool false)))
AU)))
(cOp t20 (BF g0)
(cOp t21 (AE 3 g20)
(cOp t22 (AG g21)
(cOp t24 (AY 6 g22 g8)
(cOp t25 (Ac 6 g24)
(cOp t26 (AL 61 [g25])
(cDo (AP 5 g6 g26)
(cOp t7 (AC (kV (.bool true)))
AU))))))))))))))))
def b59 : Body := ⟨[.cN g6 5, .t g7], c59⟩
def cj : List Nat := [9, 12, 13, 14, 16, 19, 23]
theorem Y0 : Am ty cj Tryz.f59 = some b59 := by kernel_rfl
def c60 : C :=
(cOp t4 (AC (kV (.int .i64 0)))
(cOp t8 (BF g0)
(cOp t9 (AE 3 g8)
(cOp t10 (AG g9)
(cOp t12 (AY 6 g10 g1)
(cOp t13 (AE 5 g12)
(cOp t14 (AG g13)
(cOp t15 (AX 1 (A6 ty3.zero 1) [(0, 1, g14)])
(cOp t16 (AL 47 [g0, g15])
(cOp t5 (AC g16)
(cOp t18 (AM iNe .i64 g5 (kV (.int .i64 0)))
(AJ g18
(cOp t4 (AC g5)
AU)
(cOp t22 (AL 58 [g0, g1])
(cOp t4 (AC (kV (.int .i64 0)))
AU))))))))))))))
def b60 : Body := ⟨[.t g4], c60⟩
def cl : List Nat := [6, 7, 11, 17, 19, 20, 21]
theorem Y1 : Am ty cl Tryz.f60 = some b60 := by kernel_rfl
def c61 : C :=
(cOp t1 (CG g0)
(cOp t2 (A9 5 Bx)
(cOp t3 (AE 0 g1)
(cOp t4 (AE 4 g3)
(cOp t5 (AG g4)
(cOp t6 (AL 49 [g5])
(cOp t7 (AE 0 g1)
(cOp t8 (AE 4 g7)
(cDo (AP 1 g8 g6)
(cOp t9 (AE 0 g1)
(cOp t10 (Ac 5 g9)
(cDo (AP 5 g2 g10)
AU))))))))))))
def b61 : Body := ⟨[.cN g2 5], c61⟩
def cn : List Nat := []
theorem Y2 : Am ty cn Tryz.f61 = some b61 := by kernel_rfl
def c62 : C :=
(cOp t2 (AC (kV (.slice none 0 0)))
(cOp t3 (AC (kV (.slice none 0 0)))
(AK 0 (Aj (AK 1 (cOp t5 (AM iLt .u64 g0 (kV (.int .u64 128)))
(AJ g5
(cOp t8 (An .u8 g0)
(cOp t9 (AX 1 (A6 ty5.zero 1) [(0, 1, g8)])
(cOp t10 (BB 1 1 5 g3 g9)
(cOp t2 (AC g10)
AU))))
(cOp t13 (GF .u64 g0 (kV (.int .u64 128)))
(cOp t14 (An .u8 g13)
(cOp t15 (Ai .u8 (AQ .u8) g14 (kV (.int .u8 128)))
(cOp t16 (AX 1 (A6 ty5.zero 1) [(0, 1, g15)])
(cOp t17 (BB 1 1 5 g3 g16)
(cOp t3 (AC g17)
(cOp t19 (Ch .u64 g0 (kV (.int .u64 128)))
(cOp t0 (AC g19)
AO)))))))))))))))
def b62 : Body := ⟨[.t g2], c62⟩
def co : List Nat := [4, 6, 7, 11, 12, 18]
theorem Y3 : Am ty co Tryz.f62 = some b62 := by kernel_rfl
def c63 : C :=
(cOp t4 (AC (kV (.slice none 0 0)))
(cOp t7 (AL 62 [g1])
(cOp t8 (AL 86 [g0, g7])
(cOp t4 (AC g8)
AU))))
def b63 : Body := ⟨[.t g4], c63⟩
def cp : List Nat := [5, 6]
theorem Y4 : Am ty cp Tryz.f63 = some b63 := by kernel_rfl
def c64 : C :=
(cOp t4 (AC (kV (.slice none 0 0)))
(cOp t8 (AL 30 [g0, g1])
(cOp t5 (AC g8)
(cOp t11 (Ch .u32 g5 (kV (.int .u32 16777216)))
(cOp t12 (An .u8 g11)
(cOp t14 (Ch .u32 g5 (kV (.int .u32 65536)))
(cOp t15 (An .u8 g14)
(cOp t17 (Ch .u32 g5 (kV (.int .u32 256)))
(cOp t18 (An .u8 g17)
(cOp t20 (An .u8 g5)
(cOp t21 (AX 4 (A6 ty5.zero 4) [(0, 1, g12), (1, 1, g15), (2, 1, g18), (3, 1, g20)])
(cOp t22 (AL 86 [g1, g21])
(cOp t4 (AC g22)
AU)))))))))))))
def b64 : Body := ⟨[.t g4], c64⟩
def cq : List Nat := [6, 7, 9, 10, 13, 16, 19]
theorem Y5 : Am ty cq Tryz.f64 = some b64 := by kernel_rfl
def c65 : C :=
(cOp t4 (AC (kV (.int .i64 0)))
(cOp t7 (Aw g0)
(cOp t8 (AC (kV (.int .i64 0)))
(Al (AK 0 (Aj (cOp t9 (AM iLt .i64 g8 g7)
(AJ g9
(Al (AK 1 (cOp t5 (AC g8)
(cOp t14 (AY 1 g0 g5)
(cOp t15 (AG g14)
(cOp t16 (B8 g1 [g15])
(AJ g16
(cOp t4 (AC g5)
AU)
AO))))))
(cOp t18 (Ai .i64 (AQ .i64) g8 (kV (.int .i64 1)))
(cOp t8 (AC g18)
AO)))
(At 0)))))
(cOp t4 (AC (kV (.int .i64 (-1))))
AU)))))
def b65 : Body := ⟨[.t g4], c65⟩
def cr : List Nat := [6, 10, 11, 12, 13, 17]
theorem Y6 : Am ty cr Tryz.f65 = some b65 := by kernel_rfl
def c66 : C :=
(cOp t2 (AC (kV (.bool false)))
(cOp t4 (oEq bQ.k false g0 (kV (.pointer none)))
(cG g4 false t6 (AC g0)
(cG g4 false t7 (BF g6)
(cG g4 false t8 (AE 1 g7)
(cG g4 false t9 (AG g8)
(cG g4 false t10 (oEq hR.k false g9 (kV (.map none)))
(cOp t11 (AW g4 (kV (.bool true)) g10)
(cOp t2 (AC g11)
AU)))))))))
def b66 : Body := ⟨[.t g2], c66⟩
def cu : List Nat := [3, 5]
theorem Y7 : Am ty cu Tryz.f66 = some b66 := by kernel_rfl
def c67 : C :=
(cOp t4 (AC (kV (.slice none 0 0)))
(cOp t5 (AC (kV (.int .i64 0)))
(cOp t11 (AL 87 [g0, g1])
(cOp t6 (AC g11)
(cOp t13 (AM iNe .i64 g6 (kV (.int .i64 0)))
(AJ g13
(cOp t4 (AC (kV (.slice none 0 0)))
(cOp t5 (AC g6)
AU))
(cOp t17 (BF g0)
(cOp t18 (AE 1 g17)
(cOp t19 (AG g18)
(cOp t21 (G8 ⟨false, [.i .i64]⟩ (.agg ⟨Tw.zero⟩) true g19 g1)
(cOp t22 (AN 0 g21)
(cOp t23 (AN 1 g21)
(cOp t7 (A9 64 X8)
(cDo (AP 64 g7 g22)
(cOp t8 (AC g23)
(cOp t25 (Bo g8)
(Al (AJ g25
(cOp t27 (BF g0)
(cOp t28 (AE 0 g27)
(cOp t29 (AG g28)
(cOp t31 (AY 64 g29 g1)
(cOp t32 (Ac 64 g31)
(cDo (AP 64 g7 g32)
AO))))))
AO)
(cOp t33 (F5 64 1 g7 none none none)
(cOp t4 (AC g33)
(cOp t5 (AC (kV (.int .i64 0)))
AU))))))))))))))))))))
def b67 : Body := ⟨[.t g4, .t g5], c67⟩
def cw : List Nat := [9, 10, 12, 14, 15, 16, 20, 24, 26, 30]
theorem Y8 : Am ty cw Tryz.f67 = some b67 := by kernel_rfl
def c68 : C :=
(cOp t2 (AC (kV (.bool false)))
(cOp t4 (AM iNe .u8 g0 (kV (.int .u8 0)))
(cOp t2 (AC g4)
AU)))
def b68 : Body := ⟨[.t g2], c68⟩
def cx : List Nat := [3]
theorem Y9 : Am ty cx Tryz.f68 = some b68 := by kernel_rfl
def c69 : C :=
(cOp t6 (AC (kV (.slice none 0 0)))
(cOp t7 (AC (kV (.int .i64 0)))
(cOp t8 (AC (kV (.slice none 0 0)))
(cOp t9 (AC (kV (.int .i64 0)))
(Al (AK 0 (Aj (cOp t13 (Aw g8)
(cOp t15 (AM iLt .i64 g13 g2)
(AJ g15
(Al (AK 1 (Ar (cOp t20 (BF g0)
(cOp t21 (AE 0 g20)
(Cn g21 (B7 g21 []
(cOp t22 (AG g21)
(cOp t25 (AS .weak (AL 54 [g0, g1]))
(cOp t26 (Ai .i64 (AQ .i64) g25 (kV (.int .i64 1)))
(cOp t28 (Ai .i64 (AQ .i64) g26 g9)
(cOp t29 (AS .free (AL 67 [g22, g28]))
(cOp t30 (AN 0 g29)
(cOp t31 (AN 1 g29)
(cOp t10 (AC g30)
(cOp t11 (AC g31)
(cOp t33 (AM iNe .i64 g11 (kV (.int .i64 0)))
(AJ g33
(cOp t6 (AC (kV (.slice none 0 0)))
(cOp t7 (AC g11)
AU))
(cOp t37 (BB 1 1 5 g8 g10)
(cOp t8 (AC g37)
AO)))))))))))))))))))
(cOp t17 (Ai .i64 (AQ .i64) g9 (kV (.int .i64 1)))
(cOp t9 (AC g17)
AO)))
(At 0))))))
(cOp t41 (EM 5 1 g8 none (some g2) (some g2))
(cOp t6 (AC g41)
(cOp t7 (AC (kV (.int .i64 0)))
AU))))))))
def b69 : Body := ⟨[.t g6, .t g7], c69⟩
def cy : List Nat := [12, 14, 16, 18, 19, 23, 24, 27, 32, 34, 35, 36, 38, 39, 40]
theorem ZA : Am ty cy Tryz.f69 = some b69 := by kernel_rfl
def c70 : C :=
(cOp t10 (AC (kV (.bool true)))
(cOp t11 (AC (kV (.bool true)))
(AK 0 (Aj (AK 1 (cOp t23 (As Int.sub .i64 g2 g1)
(cOp t12 (AC g23)
(cOp t25 (AM iLe .i64 g12 (kV (.int .i64 12)))
(AJ g25
(cOp t30 (AL 88 [g0, g1, g2, g4])
AU)
(cOp t32 (AM iEq .i64 g3 (kV (.int .i64 0)))
(AJ g32
(cOp t37 (AL 89 [g0, g1, g2, g4])
AU)
(cOp t39 (Bo g10)
(Al (AJ g39
(cOp t44 (AL 90 [g0, g1, g2, g4])
(cOp t46 (As Int.sub .i64 g3 (kV (.int .i64 1)))
(cOp t3 (AC g46)
AO)))
AO)
(cOp t52 (AL 91 [g0, g1, g2, g4])
(cOp t53 (AN 0 g52)
(cOp t54 (AN 1 g52)
(cOp t13 (AC g53)
(cOp t14 (AC g54)
(cOp t56 (AM iEq .i64 g14 (kV (.int .i64 2)))
(Al (AJ g56
(cOp t61 (AL 92 [g0, g1, g2, g4])
(cOp t63 (As Int.sub .i64 g2 (kV (.int .i64 1)))
(cOp t66 (As Int.sub .i64 g13 g1)
(cOp t67 (As Int.sub .i64 g63 g66)
(cOp t13 (AC g67)
(cOp t14 (AC (kV (.int .i64 1)))
AO))))))
AO)
(cG g10 true t70 (AC g11)
(cOp t71 (AW g10 g70 (kV (.bool false)))
(cG g71 true t73 (AC g14)
(cG g71 true t74 (AM iEq .i64 g73 (kV (.int .i64 1)))
(cOp t75 (AW g71 g74 (kV (.bool false)))
(Al (AJ g75
(cOp t80 (AL 93 [g0, g1, g2, g4])
(AJ g80
AU
AO))
AO)
(Ar (cOp t82 (AM iGt .i64 g1 (kV (.int .i64 0)))
(cG g82 true t84 (AC g4)
(cG g82 true t85 (AC g0)
(cG g82 true t86 (AC g1)
(cG g82 true t87 (As Int.sub .i64 g86 (kV (.int .i64 1)))
(cG g82 true t88 (AY 6 g85 g87)
(cG g82 true t89 (Ac 6 g88)
(cG g82 true t90 (AC g0)
(cG g82 true t91 (AC g13)
(cG g82 true t92 (AY 6 g90 g91)
(cG g82 true t93 (Ac 6 g92)
(cG g82 true t94 (AS .free (B8 g84 [g89, g93]))
(cG g82 true t95 (AM iLt .i64 g94 (kV (.int .i64 0)))
(cG g82 true t96 (Bo g95)
(cOp t97 (AW g82 g96 (kV (.bool false)))
(AJ g97
(cOp LX (AL 94 [g0, g1, g2, g13, g4])
(cOp t15 (AC Jr)
(cOp t1 (AC g15)
(At 1))))
(cOp NR (AL 95 [g0, g1, g2, g13, g4])
(cOp NS (AN 0 K6)
(cOp NT (AN 1 K6)
(cOp t16 (AC MA)
(cOp t17 (AC MB)
(cOp t11 (AC g17)
(cOp Oi (As Int.sub .i64 g16 g1)
(cOp NW (As Int.sub .i64 g2 g16)
(cOp t18 (AC Ff)
(cOp t19 (AC MD)
(cOp Ok (Ch .i64 g12 (kV (.int .i64 8)))
(cOp t20 (AC N4)
(cOp La (AM iLt .i64 g18 g19)
(AJ Eg
(cOp Q8 (AM iGe .i64 g18 g20)
(cOp t10 (AC QG)
(cOp On (AL 70 [g0, g1, g16, g3, g4])
(cOp Tn (Ai .i64 (AQ .i64) g16 (kV (.int .i64 1)))
(cOp t1 (AC SI)
AO)))))
(cOp XI (AM iGe .i64 g19 g20)
(cOp t10 (AC Vh)
(cOp bL (Ai .i64 (AQ .i64) g16 (kV (.int .i64 1)))
(cOp bM (AL 70 [g0, aL, g2, g3, g4])
(cOp t2 (AC g16)
AO))))))))))))))))))))))))))))))))))))))))))))))))))))))))))))))
def b70 : Body := ⟨[], c70⟩
def cz : List Nat := [21, 22, 24, 26, 27, 28, 29, 31, 33, 34, 35, 36, 38, 40, 41, 42, 43, 45, 47, 48, 49, 50, 51, 55, 57, 58, 59, 60, 62, 64, 65, 68, 69, 72, 76, 77, 78, 79, 81, 83, 98, 99, 100, 101, 102, 104, 105, 106, 107, 108, 109, 110, 114, 115, 116, 118, 119, 121, 123, 124, 126, 127, 129, 130, 131, 132, 133, 135, 137, 138, 140, 141, 143, 144, 145, 147]
theorem ZB : Am ty cz Tryz.f70 = some b70 := by kernel_rfl
def c71 : C :=
(cOp t2 (AC (kV (.int .i64 0)))
(AJ (kV (.bool false))
(cOp t4 (An .u32 g0)
(cOp t5 (AL 96 [g4])
(cOp t2 (AC g5)
AU)))
(cOp t7 (AL 97 [g0])
(cOp t2 (AC g7)
AU))))
def b71 : Body := ⟨[.t g2], c71⟩
def dA : List Nat := [3, 6]
theorem ZC : Am ty dA Tryz.f71 = some b71 := by kernel_rfl
def c72 : C :=
(cOp t2 (AC (kV (.int .i64 0)))
(cOp t3 (AC (kV (.int .i64 0)))
(cOp t6 (AC g0)
(cOp t7 (Aw g6)
(cOp t8 (AC (kV (.int .i64 0)))
(Al (AK 0 (Aj (cOp t9 (AM iLt .i64 g8 g7)
(AJ g9
(Al (AK 1 (cOp t10 (AY 1 g6 g8)
(cOp t11 (AG g10)
(cOp t5 (AC g11)
(cOp t14 (AM iNe .i64 g5 g3)
(AJ g14
(cOp t2 (AC g5)
AU)
AO))))))
(cOp t16 (Ai .i64 (AQ .i64) g8 (kV (.int .i64 1)))
(cOp t8 (AC g16)
AO)))
(At 0)))))
(cOp t2 (AC g3)
AU)))))))
def b72 : Body := ⟨[.t g2], c72⟩
def dB : List Nat := [12, 13, 15, 17]
theorem ZD : Am ty dB Tryz.f72 = some b72 := by kernel_rfl
def c73 : C :=
(cOp t4 (AC (kV (.int .i64 0)))
(cOp t8 (AL 98 [g0])
(cOp t5 (AC g8)
(cOp t10 (AL 98 [g1])
(cOp t6 (AC g10)
(AJ g5
(AJ g6
(cOp t4 (AC (kV (.int .i64 0)))
AU)
(cOp t4 (AC (kV (.int .i64 (-1))))
AU))
(AJ g6
(cOp t4 (AC (kV (.int .i64 1)))
AU)
(cOp t16 (AM iLt .i64 g0 g1)
(AJ g16
(cOp t4 (AC (kV (.int .i64 (-1))))
AU)
(cOp t19 (AM iGt .i64 g0 g1)
(AJ g19
(cOp t4 (AC (kV (.int .i64 1)))
AU)
(cOp t4 (AC (kV (.int .i64 0)))
AU))))))))))))
def b73 : Body := ⟨[.t g4], c73⟩
def dC : List Nat := [7, 9, 11, 12, 13, 14, 15, 17, 18]
theorem ZE : Am ty dC Tryz.f73 = some b73 := by kernel_rfl
def c74 : C :=
(cOp t2 (CG g0)
(cOp t3 (AC (kV (.bool false)))
(cOp t6 (AE 0 g2)
(cOp t7 (AE 0 g6)
(cOp t8 (AG g7)
(cOp t9 (AE 0 g1)
(cOp t10 (AE 0 g9)
(cOp t11 (AG g10)
(cOp t12 (AM iEq .i64 g8 g11)
(cG g12 true t14 (AE 0 g2)
(cG g12 true t15 (AE 1 g14)
(cG g12 true t16 (AG g15)
(cG g12 true t17 (AE 0 g1)
(cG g12 true t18 (AE 1 g17)
(cG g12 true t19 (AG g18)
(cG g12 true t20 (AM iEq .i64 g16 g19)
(cOp t21 (AW g12 g20 (kV (.bool false)))
(cOp t4 (AC g21)
(cOp t22 (AE 0 g2)
(cOp t23 (AE 2 g22)
(cOp t24 (AG g23)
(cOp t25 (AE 0 g1)
(cOp t26 (AE 2 g25)
(cOp t27 (AG g26)
(cOp t28 (AM iGt .i64 g24 g27)
(cG g28 false t30 (AE 0 g2)
(cG g28 false t31 (AE 2 g30)
(cG g28 false t32 (AG g31)
(cG g28 false t33 (AE 0 g1)
(cG g28 false t34 (AE 2 g33)
(cG g28 false t35 (AG g34)
(cG g28 false t36 (AM iEq .i64 g32 g35)
(cG g28 false t37 (AC g36)
(cG g37 true t38 (AE 0 g1)
(cG g37 true t39 (AE 3 g38)
(cG g37 true t40 (AG g39)
(cG g37 true t41 (AM iEq .u8 g40 (kV (.int .u8 1)))
(cG g28 false t42 (AW g37 g41 (kV (.bool false)))
(cOp t43 (AW g28 (kV (.bool true)) g42)
(cOp t5 (AC g43)
(cG g4 true t46 (AE 5 g2)
(cG g4 true t47 (AG g46)
(cG g4 true t48 (AE 5 g1)
(cG g4 true t49 (AG g48)
(cG g4 true t50 (AM iNe .i64 g47 g49)
(cOp t51 (AW g4 g50 (kV (.bool false)))
(cG g51 true t53 (AE 0 g2)
(cG g51 true t54 (AE 3 g53)
(cG g51 true t55 (AG g54)
(cG g51 true t56 (AM iEq .u8 g55 (kV (.int .u8 2)))
(cOp t57 (AW g51 g56 (kV (.bool false)))
(cG g57 true t59 (AC g5)
(cOp t60 (AW g57 g59 (kV (.bool false)))
(cOp t3 (AC g60)
AU))))))))))))))))))))))))))))))))))))))))))))))))))))))
def b74 : Body := ⟨[.t g3], c74⟩
def dD : List Nat := [13, 29, 44, 45, 52, 58]
theorem ZF : Am ty dD Tryz.f74 = some b74 := by kernel_rfl
def c75 : C :=
(cOp t2 (CG g0)
(cOp t3 (AC (kV (.bool false)))
(cOp t4 (AE 0 g2)
(cOp t5 (AE 0 g4)
(cOp t6 (AG g5)
(cOp t7 (AE 0 g1)
(cOp t8 (AE 0 g7)
(cOp t9 (AG g8)
(cOp t10 (AM iEq .i64 g6 g9)
(cG g10 true t12 (AE 0 g2)
(cG g10 true t13 (AE 1 g12)
(cG g10 true t14 (AG g13)
(cG g10 true t15 (AE 0 g1)
(cG g10 true t16 (AE 1 g15)
(cG g10 true t17 (AG g16)
(cG g10 true t18 (AM iEq .i64 g14 g17)
(cOp t19 (AW g10 g18 (kV (.bool false)))
(cG g19 true t21 (AE 0 g2)
(cG g19 true t22 (AE 2 g21)
(cG g19 true t23 (AG g22)
(cG g19 true t24 (AE 0 g1)
(cG g19 true t25 (AE 2 g24)
(cG g19 true t26 (AG g25)
(cG g19 true t27 (AM iEq .i64 g23 g26)
(cOp t28 (AW g19 g27 (kV (.bool false)))
(cG g28 true t30 (AE 0 g2)
(cG g28 true t31 (AE 3 g30)
(cG g28 true t32 (AG g31)
(cG g28 true t33 (AE 0 g1)
(cG g28 true t34 (AE 3 g33)
(cG g28 true t35 (AG g34)
(cG g28 true t36 (AM iEq .u8 g32 g35)
(cOp t37 (AW g28 g36 (kV (.bool false)))
(cOp t3 (AC g37)
AU))))))))))))))))))))))))))))))))))
def b75 : Body := ⟨[.t g3], c75⟩
def dE : List Nat := [11, 20, 29]
theorem ZG : Am ty dE Tryz.f75 = some b75 := by kernel_rfl
def c76 : C :=
(cOp t4 (AC (kV (.int .i64 0)))
(cOp t7 (Aw g0)
(cOp t8 (AC (kV (.int .i64 0)))
(Al (AK 0 (Aj (cOp t9 (AM iLt .i64 g8 g7)
(AJ g9
(Al (AK 1 (cOp t5 (AC g8)
(cOp t14 (AY 6 g0 g5)
(cOp t15 (Ac 6 g14)
(cOp t16 (B8 g1 [g15])
(AJ g16
(cOp t4 (AC g5)
AU)
AO))))))
(cOp t18 (Ai .i64 (AQ .i64) g8 (kV (.int .i64 1)))
(cOp t8 (AC g18)
AO)))
(At 0)))))
(cOp t4 (AC (kV (.int .i64 (-1))))
AU)))))
def b76 : Body := ⟨[.t g4], c76⟩
def dF : List Nat := [6, 10, 11, 12, 13, 17]
theorem ZH : Am ty dF Tryz.f76 = some b76 := by kernel_rfl
def c77 : C :=
(cOp t4 (AC (kV (.int .i64 0)))
(cOp t7 (Aw g0)
(cOp t8 (AC (kV (.int .i64 0)))
(Al (AK 0 (Aj (cOp t9 (AM iLt .i64 g8 g7)
(AJ g9
(Al (AK 1 (cOp t5 (AC g8)
(cOp t14 (AY 1 g0 g5)
(cOp t15 (AG g14)
(cOp t16 (AM iEq .i64 g1 g15)
(AJ g16
(cOp t4 (AC g5)
AU)
AO))))))
(cOp t18 (Ai .i64 (AQ .i64) g8 (kV (.int .i64 1)))
(cOp t8 (AC g18)
AO)))
(At 0)))))
(cOp t4 (AC (kV (.int .i64 (-1))))
AU)))))
def b77 : Body := ⟨[.t g4], c77⟩
def dG : List Nat := [6, 10, 11, 12, 13, 17]
theorem ZI : Am ty dG Tryz.f77 = some b77 := by kernel_rfl
def c78 : C :=
(cOp t2 (AC (kV (.int .i64 0)))
(Ar (Cn g0 (B7 g0 []
(cOp t3 (AG g0)
(cOp t4 (BF g3)
(cOp t5 (AE 0 g4)
(Cn g5 (B7 g5 []
(cOp t6 (AG g5)
(cOp t7 (AG g0)
(cOp t8 (AG g1)
(cOp t9 (AS .weak (AL 54 [g7, g8]))
(cOp t10 (AS .strong (GL 1 ty5.zero (kV (.int .i64 64)) (kV (.int .i64 64))))
(cOp t11 (AS .free (AL 79 [g6, g9, g10]))
(cOp t2 (AC g11)
AU))))))))))))))))
def b78 : Body := ⟨[.t g2], c78⟩
def dH : List Nat := []
theorem ZJ : Am ty dH Tryz.f78 = some b78 := by kernel_rfl
def c79 : C :=
(cOp t6 (AC (kV (.int .i64 0)))
(cOp t11 (AL 87 [g0, g1])
(cOp t7 (AC g11)
(cOp t13 (AM iNe .i64 g7 (kV (.int .i64 0)))
(AJ g13
(cOp t6 (AC g7)
AU)
(cOp t16 (Aw g2)
(cOp t17 (AM iNe .i64 g16 (kV (.int .i64 64)))
(AJ g17
(cOp t6 (AC (kV (.int .i64 2)))
AU)
(cOp t19 (AL 99 [g0])
(cOp t8 (AC g19)
(cOp t21 (AM iNe .i64 g8 (kV (.int .i64 0)))
(AJ g21
(cOp t6 (AC g8)
AU)
(Ar (cOp t24 (BF g0)
(cOp t25 (AE 1 g24)
(cOp t26 (AG g25)
(cOp t29 (QV 64 g2)
(cOp t30 (Ac 64 g29)
(cDo (AS .free (FF ⟨false, [.i .i64]⟩ g26 g1 g30))
(cOp t6 (AC (kV (.int .i64 0)))
AU))))))))))))))))))))
def b79 : Body := ⟨[.t g6], c79⟩
def dI : List Nat := [9, 10, 12, 14, 15, 18, 20, 22, 23, 27, 28]
theorem ZK : Am ty dI Tryz.f79 = some b79 := by kernel_rfl
def c80 : C :=
(cOp t2 (AC (kV (.int .i64 0)))
(cOp t8 (AL 87 [g0, (kV (.int .i64 0))])
(cOp t3 (AC g8)
(cOp t10 (AM iNe .i64 g3 (kV (.int .i64 0)))
(AJ g10
(cOp t2 (AC g3)
AU)
(cOp t13 (AL 99 [g0])
(cOp t4 (AC g13)
(cOp t15 (AM iNe .i64 g4 (kV (.int .i64 0)))
(AJ g15
(cOp t2 (AC g4)
AU)
(cOp t18 (BF g0)
(cOp t19 (AE 1 g18)
(cOp t20 (AG g19)
(cOp t21 (LL g20)
(Al (AK 0 (J2 ⟨21, 22, 23, 0, [22, 23, 24, 25, 26, 6, 5, 27, 28, 29, 30, 31, 32, 33], []⟩ (cOp t22 (G9 g21)
(cOp t23 (AN 0 g22)
(AJ g23
(AK 1 (cOp t24 (LK g21)
(cOp t25 (AN 0 g24)
(cOp t26 (AN 1 g24)
(cOp t6 (A9 64 X8)
(cOp t5 (AC g25)
(cDo (AP 64 g6 g26)
(Ar (cOp t28 (BF g0)
(cOp t29 (AE 0 g28)
(cOp t30 (AG g29)
(cOp t32 (Ac 64 g6)
(cOp t33 (AY 64 g30 g5)
(cDo (AS .free (AP 64 g33 g32))
AO))))))))))))))
(At 0))))))
(cOp t35 (BF g0)
(cOp t36 (AE 1 g35)
(cOp t37 (AG g36)
(cDo (F3 g37)
(cOp t2 (AC (kV (.int .i64 0)))
AU)))))))))))))))))))
def b80 : Body := ⟨[.t g2], c80⟩
def dJ : List Nat := [7, 9, 11, 12, 14, 16, 17, 27, 31, 34]
theorem ZL : Am ty dJ Tryz.f80 = some b80 := by kernel_rfl
def c81 : C :=
(cOp t4 (CG g0)
(cOp t5 (AC (kV (.bool false)))
(cOp t6 (AE 0 g4)
(cOp t7 (AE 0 g6)
(cOp t8 (AG g7)
(cOp t9 (AG g1)
(cOp t10 (AM iEq .i64 g8 g9)
(cG g10 true t12 (AE 0 g4)
(cG g10 true t13 (AE 1 g12)
(cG g10 true t14 (AG g13)
(cG g10 true t15 (AG g2)
(cG g10 true t16 (AM iEq .i64 g14 g15)
(cOp t17 (AW g10 g16 (kV (.bool false)))
(cG g17 true t19 (AE 0 g4)
(cG g17 true t20 (AE 2 g19)
(cG g17 true t21 (AG g20)
(cG g17 true t22 (AG g3)
(cG g17 true t23 (AM iEq .i64 g21 g22)
(cOp t24 (AW g17 g23 (kV (.bool false)))
(cOp t5 (AC g24)
AU))))))))))))))))))))
def b81 : Body := ⟨[.t g5], c81⟩
def dK : List Nat := [11, 18]
theorem ZM : Am ty dK Tryz.f81 = some b81 := by kernel_rfl
def c82 : C :=
(cOp t4 (CG g1)
(cOp t5 (CG g2)
(cOp t6 (AC (kV (.int .i64 0)))
(cOp t8 (BF g0)
(cOp t9 (AE 3 g8)
(cOp t10 (AG g9)
(cOp t11 (D6 (.func 100) [] [g4, g5])
(cOp t12 (AL 76 [g10, g11])
(cOp t6 (AC g12)
AU)))))))))
def b82 : Body := ⟨[.t g6], c82⟩
def dL : List Nat := [7]
theorem ZN : Am ty dL Tryz.f82 = some b82 := by kernel_rfl
def c83 : C :=
(cOp t3 (AC (kV (.int .i64 0)))
(Ar (cOp t4 (AG g0)
(cOp t5 (BF g4)
(cOp t6 (AE 0 g5)
(cOp t7 (AG g6)
(cOp t8 (AG g1)
(cOp t9 (AG g2)
(cOp t10 (AS .free (AL 79 [g7, g8, g9]))
(cOp t3 (AC g10)
AU))))))))))
def b83 : Body := ⟨[.t g3], c83⟩
def dM : List Nat := []
theorem ZO : Am ty dM Tryz.f83 = some b83 := by kernel_rfl
def c84 : C :=
(cOp t6 (AC (kV (.slice none 0 0)))
(cOp t12 (Aw g0)
(cOp t13 (EM 77 6 g0 (some g1) (some g2) (some g12))
(cOp t16 (AM iEq .i64 g1 g2)
(AJ g16
(cOp t6 (AC g0)
AU)
(cOp t19 (Aw g0)
(cOp t7 (AC g19)
(Ar (cOp t22 (EM 77 6 g0 none (some g1) none)
(cOp t25 (EM 77 6 g0 (some g2) none none)
(cOp t26 (AS .free (BB 6 64 77 g22 g25))
(cOp t0 (AC g26)
(cOp t29 (Aw g0)
(cOp t31 (EM 77 6 g0 (some g29) (some g7) none)
(cDo (LI IL.zero g31)
(cOp t6 (AC g0)
AU))))))))))))))))
def b84 : Body := ⟨[.t g6], c84⟩
def dN : List Nat := [8, 9, 10, 11, 14, 15, 17, 18, 20, 21, 23, 24, 27, 28, 30, 32]
theorem ZP : Am ty dN Tryz.f84 = some b84 := by kernel_rfl
def c85 : C :=
(cOp t4 (Aw g0)
(cOp t2 (AC g4)
(cOp t8 (An .u64 g2)
(cOp t9 (AL 71 [g8])
(cOp t10 (AL 101 [g0, (kV (.int .i64 0)), g2, g9])
AO)))))
def b85 : Body := ⟨[], c85⟩
def dO : List Nat := [3, 5, 6, 7]
theorem ZQ : Am ty dO Tryz.f85 = some b85 := by kernel_rfl
def c86 : C :=
(cOp t4 (AC (kV (.slice none 0 0)))
(cOp t6 (Cb g0)
(cOp t8 (Cb g1)
(cOp t9 (LH g6 g8)
(cOp t10 (Dg 5 g9)
(cOp t4 (AC g10)
AU))))))
def b86 : Body := ⟨[.t g4], c86⟩
def dP : List Nat := [5, 7]
theorem ZR : Am ty dP Tryz.f86 = some b86 := by kernel_rfl
def c87 : C :=
(cOp t4 (AC (kV (.int .i64 0)))
(Al (AK 0 (cOp t7 (AL 66 [g0])
(cOp t5 (AC g7)
(AJ g5
(cOp t4 (AC (kV (.int .i64 1)))
AU)
(cOp t10 (BF g0)
(cOp t11 (AE 3 g10)
(cOp t12 (AG g11)
(cOp t8 (AC g12)
(AJ g8
(cOp t4 (AC (kV (.int .i64 15)))
AU)
(cOp t15 (AM iLt .i64 g1 (kV (.int .i64 0)))
(cG g15 false t17 (AC g1)
(cG g15 false t18 (AC g0)
(cG g15 false t19 (BF g18)
(cG g15 false t20 (AE 0 g19)
(cG g15 false t21 (AG g20)
(cG g15 false t22 (Aw g21)
(cG g15 false t23 (AM iGe .i64 g17 g22)
(cOp t24 (AW g15 (kV (.bool true)) g23)
(cOp t13 (AC g24)
(AJ g13
(cOp t4 (AC (kV (.int .i64 50)))
AU)
AO))))))))))))))))))))
(cOp t4 (AC (kV (.int .i64 0)))
AU)))
def b87 : Body := ⟨[.t g4], c87⟩
def dQ : List Nat := [6, 9, 14, 16]
theorem ZS : Am ty dQ Tryz.f87 = some b87 := by kernel_rfl
def c88 : C :=
(cOp t11 (Ai .i64 (AQ .i64) g1 (kV (.int .i64 1)))
(cOp t8 (AC g11)
(AK 0 (Aj (cOp t14 (AM iLt .i64 g8 g2)
(AJ g14
(Al (AK 1 (cOp t9 (AC g8)
(AK 2 (Aj (Ar (cOp t20 (AM iGt .i64 g9 g1)
(cG g20 true t22 (AC g3)
(cG g20 true t23 (AC g0)
(cG g20 true t24 (AC g9)
(cG g20 true t25 (AY 6 g23 g24)
(cG g20 true t26 (Ac 6 g25)
(cG g20 true t27 (AC g0)
(cG g20 true t28 (AC g9)
(cG g20 true t29 (As Int.sub .i64 g28 (kV (.int .i64 1)))
(cG g20 true t30 (AY 6 g27 g29)
(cG g20 true t31 (Ac 6 g30)
(cG g20 true t32 (AS .free (B8 g22 [g26, g31]))
(cG g20 true t33 (AM iLt .i64 g32 (kV (.int .i64 0)))
(cOp t34 (AW g20 g33 (kV (.bool false)))
(AJ g34
(Al (AK 3 (Ar (cOp t41 (As Int.sub .i64 g9 (kV (.int .i64 1)))
(cOp t44 (As Int.sub .i64 g9 (kV (.int .i64 1)))
(cOp t45 (AY 6 g0 g44)
(cOp t46 (Ac 6 g45)
(cOp t49 (AY 6 g0 g9)
(cOp t50 (Ac 6 g49)
(cOp t51 (AY 6 g0 g9)
(cDo (AS .free (AP 6 g51 g46))
(cOp t52 (AY 6 g0 g41)
(cDo (AS .free (AP 6 g52 g50))
AO))))))))))))
(cOp t36 (As Int.sub .i64 g9 (kV (.int .i64 1)))
(cOp t9 (AC g36)
AO)))
(At 2)))))))))))))))))))))
(cOp t16 (Ai .i64 (AQ .i64) g8 (kV (.int .i64 1)))
(cOp t8 (AC g16)
AO)))
(At 0)))))))
def b88 : Body := ⟨[], c88⟩
def dR : List Nat := [10, 12, 13, 15, 17, 18, 19, 21, 35, 37, 38, 39, 40, 42, 43, 47, 48]
theorem ZT : Am ty dR Tryz.f88 = some b88 := by kernel_rfl
def c89 : C :=
(cOp t8 (AC g1)
(cOp t9 (AC (kV (.int .i64 0)))
(cOp t16 (As Int.sub .i64 g2 g1)
(cOp t10 (AC g16)
(cOp t18 (As Int.sub .i64 g10 (kV (.int .i64 1)))
(cOp t19 (Ch .i64 g18 (kV (.int .i64 2)))
(cOp t11 (AC g19)
(Al (AK 0 (Aj (cOp t21 (AM iGe .i64 g11 (kV (.int .i64 0)))
(AJ g21
(Al (AK 1 (cOp t29 (AL 102 [g0, g11, g10, g8, g3])
AO))
(cOp t23 (As Int.sub .i64 g11 (kV (.int .i64 1)))
(cOp t11 (AC g23)
AO)))
(At 0)))))
(cOp t31 (As Int.sub .i64 g10 (kV (.int .i64 1)))
(cOp t12 (AC g31)
(AK 2 (Aj (cOp t33 (AM iGe .i64 g12 (kV (.int .i64 0)))
(AJ g33
(Al (AK 3 (Ar (cOp t41 (Ai .i64 (AQ .i64) g8 g12)
(cOp t45 (Ai .i64 (AQ .i64) g8 g12)
(cOp t46 (AY 6 g0 g45)
(cOp t47 (Ac 6 g46)
(cOp t50 (AY 6 g0 g8)
(cOp t51 (Ac 6 g50)
(cOp t52 (AY 6 g0 g8)
(cDo (AS .free (AP 6 g52 g47))
(cOp t53 (AY 6 g0 g41)
(cDo (AS .free (AP 6 g53 g51))
(cOp t59 (AL 102 [g0, g9, g12, g8, g3])
AO)))))))))))))
(cOp t35 (As Int.sub .i64 g12 (kV (.int .i64 1)))
(cOp t12 (AC g35)
AO)))
(At 2)))))))))))))))
def b89 : Body := ⟨[], c89⟩
def dS : List Nat := [13, 14, 15, 17, 20, 22, 24, 25, 26, 27, 28, 30, 32, 34, 36, 37, 38, 39, 40, 42, 43, 44, 48, 49, 54, 55, 56, 57, 58]
theorem ZU : Am ty dS Tryz.f89 = some b89 := by kernel_rfl
def c90 : C :=
(cOp t15 (As Int.sub .i64 g2 g1)
(cOp t8 (AC g15)
(cOp t17 (AM iGe .i64 g8 (kV (.int .i64 8)))
(AJ g17
(cOp t19 (An .u64 g8)
(cOp t9 (A9 1 X9)
(cDo (AP 1 g9 g19)
(cOp t21 (AL 103 [g8])
(cOp t10 (AC g21)
(cOp t24 (Ch .i64 g8 (kV (.int .i64 4)))
(cOp t25 (As Int.mul .i64 g24 (kV (.int .i64 2)))
(cOp t26 (Ai .i64 (AQ .i64) g1 g25)
(cOp t27 (As Int.sub .i64 g26 (kV (.int .i64 1)))
(cOp t11 (AC g27)
(AK 0 (Aj (cOp t31 (Ch .i64 g8 (kV (.int .i64 4)))
(cOp t32 (As Int.mul .i64 g31 (kV (.int .i64 2)))
(cOp t33 (Ai .i64 (AQ .i64) g1 g32)
(cOp t34 (Ai .i64 (AQ .i64) g33 (kV (.int .i64 1)))
(cOp t35 (AM iLe .i64 g11 g34)
(AJ g35
(Al (AK 1 (cOp t38 (AL 104 [g9])
(cOp t40 (As Int.sub .u64 g10 (kV (.int .u64 1)))
(cOp t41 (DP Nat.land .u64 g38 g40)
(cOp t42 (An .i64 g41)
(cOp t12 (AC g42)
(cOp t45 (AM iGe .i64 g12 g8)
(Al (AJ g45
(cOp t48 (As Int.sub .i64 g12 g8)
(cOp t12 (AC g48)
AO))
AO)
(Ar (cOp t54 (Ai .i64 (AQ .i64) g1 g12)
(cOp t58 (Ai .i64 (AQ .i64) g1 g12)
(cOp t59 (AY 6 g0 g58)
(cOp t60 (Ac 6 g59)
(cOp t63 (AY 6 g0 g11)
(cOp t64 (Ac 6 g63)
(cOp t65 (AY 6 g0 g11)
(cDo (AS .free (AP 6 g65 g60))
(cOp t66 (AY 6 g0 g54)
(cDo (AS .free (AP 6 g66 g64))
AO)))))))))))))))))))
(cOp t37 (Ai .i64 (AQ .i64) g11 (kV (.int .i64 1)))
(cOp t11 (AC g37)
AO)))
(At 0)))))))))))))))))))
AO))))
def b90 : Body := ⟨[], c90⟩
def dT : List Nat := [13, 14, 16, 18, 20, 22, 23, 28, 29, 30, 36, 39, 43, 44, 46, 47, 49, 50, 51, 52, 53, 55, 56, 57, 61, 62]
theorem ZV : Am ty dT Tryz.f90 = some b90 := by kernel_rfl
def c91 : C :=
(cOp t8 (AC (kV (.int .i64 0)))
(cOp t9 (AC (kV (.int .i64 0)))
(cOp t17 (As Int.sub .i64 g2 g1)
(cOp t10 (AC g17)
(cOp t11 (A9 1 zt3)
(cOp t20 (Ch .i64 g10 (kV (.int .i64 4)))
(cOp t21 (As Int.mul .i64 g20 (kV (.int .i64 1)))
(cOp t22 (Ai .i64 (AQ .i64) g1 g21)
(cOp t12 (AC g22)
(cOp t25 (Ch .i64 g10 (kV (.int .i64 4)))
(cOp t26 (As Int.mul .i64 g25 (kV (.int .i64 2)))
(cOp t27 (Ai .i64 (AQ .i64) g1 g26)
(cOp t13 (AC g27)
(cOp t30 (Ch .i64 g10 (kV (.int .i64 4)))
(cOp t31 (As Int.mul .i64 g30 (kV (.int .i64 3)))
(cOp t32 (Ai .i64 (AQ .i64) g1 g31)
(cOp t14 (AC g32)
(cOp t34 (AM iGe .i64 g10 (kV (.int .i64 8)))
(Al (AJ g34
(cOp t36 (AM iGe .i64 g10 (kV (.int .i64 50)))
(Al (AJ g36
(cOp t40 (AL 105 [g0, g12, g11, g3])
(cOp t12 (AC g40)
(cOp t44 (AL 105 [g0, g13, g11, g3])
(cOp t13 (AC g44)
(cOp t48 (AL 105 [g0, g14, g11, g3])
(cOp t14 (AC g48)
AO))))))
AO)
(cOp t54 (AL 106 [g0, g12, g13, g14, g11, g3])
(cOp t13 (AC g54)
AO))))
AO)
(cOp t55 (AG g11)
(AK 0 (cOp t58 (AM iEq .i64 g55 (kV (.int .i64 0)))
(cOp t57 (AC g58)
(AJ g57
(cOp t8 (AC g13)
(cOp t9 (AC (kV (.int .i64 1)))
AU))
(cOp t61 (AM iEq .i64 g55 (kV (.int .i64 12)))
(cOp t60 (AC g61)
(AJ g60
(cOp t8 (AC g13)
(cOp t9 (AC (kV (.int .i64 2)))
AU))
(cOp t8 (AC g13)
(cOp t9 (AC (kV (.int .i64 0)))
AU)))))))))))))))))))))))))))))
def b91 : Body := ⟨[.t g8, .t g9], c91⟩
def dU : List Nat := [15, 16, 18, 19, 23, 24, 28, 29, 33, 35, 37, 38, 39, 41, 42, 43, 45, 46, 47, 49, 50, 51, 52, 53, 56, 59, 62]
theorem ZW : Am ty dU Tryz.f91 = some b91 := by kernel_rfl
def c92 : C :=
(cOp t8 (AC g1)
(cOp t12 (As Int.sub .i64 g2 (kV (.int .i64 1)))
(cOp t9 (AC g12)
(AK 0 (Aj (cOp t15 (AM iLt .i64 g8 g9)
(AJ g15
(AK 1 (Ar (cOp t22 (AY 6 g0 g9)
(cOp t23 (Ac 6 g22)
(cOp t26 (AY 6 g0 g8)
(cOp t27 (Ac 6 g26)
(cOp t28 (AY 6 g0 g8)
(cDo (AS .free (AP 6 g28 g23))
(cOp t29 (AY 6 g0 g9)
(cDo (AS .free (AP 6 g29 g27))
(cOp t31 (Ai .i64 (AQ .i64) g8 (kV (.int .i64 1)))
(cOp t8 (AC g31)
(cOp t33 (As Int.sub .i64 g9 (kV (.int .i64 1)))
(cOp t9 (AC g33)
AO))))))))))))))
(At 0))))))))
def b92 : Body := ⟨[], c92⟩
def dV : List Nat := [10, 11, 13, 14, 16, 17, 18, 19, 20, 21, 24, 25, 30, 32]
theorem ZX : Am ty dV Tryz.f92 = some b92 := by kernel_rfl
def c93 : C :=
(cOp t8 (AC (kV (.bool false)))
(cOp t14 (Ai .i64 (AQ .i64) g1 (kV (.int .i64 1)))
(cOp t9 (AC g14)
(cOp t10 (AC (kV (.int .i64 0)))
(Al (AK 0 (Aj (cOp t16 (AM iLt .i64 g10 (kV (.int .i64 5)))
(AJ g16
(Al (AK 1 (Al (AK 2 (Aj (Ar (cOp t21 (AM iLt .i64 g9 g2)
(cG g21 true t23 (AC g3)
(cG g21 true t24 (AC g0)
(cG g21 true t25 (AC g9)
(cG g21 true t26 (AY 6 g24 g25)
(cG g21 true t27 (Ac 6 g26)
(cG g21 true t28 (AC g0)
(cG g21 true t29 (AC g9)
(cG g21 true t30 (As Int.sub .i64 g29 (kV (.int .i64 1)))
(cG g21 true t31 (AY 6 g28 g30)
(cG g21 true t32 (Ac 6 g31)
(cG g21 true t33 (AS .free (B8 g23 [g27, g32]))
(cG g21 true t34 (AM iLt .i64 g33 (kV (.int .i64 0)))
(cG g21 true t35 (Bo g34)
(cOp t36 (AW g21 g35 (kV (.bool false)))
(AJ g36
(AK 3 (cOp t38 (Ai .i64 (AQ .i64) g9 (kV (.int .i64 1)))
(cOp t9 (AC g38)
AO)))
(At 2))))))))))))))))))))
(cOp t41 (AM iEq .i64 g9 g2)
(AJ g41
(cOp t8 (AC (kV (.bool true)))
AU)
(cOp t44 (As Int.sub .i64 g2 g1)
(cOp t45 (AM iLt .i64 g44 (kV (.int .i64 50)))
(AJ g45
(cOp t8 (AC (kV (.bool false)))
AU)
(Ar (cOp t50 (As Int.sub .i64 g9 (kV (.int .i64 1)))
(cOp t53 (As Int.sub .i64 g9 (kV (.int .i64 1)))
(cOp t54 (AY 6 g0 g53)
(cOp t55 (Ac 6 g54)
(cOp t58 (AY 6 g0 g9)
(cOp t59 (Ac 6 g58)
(cOp t60 (AY 6 g0 g9)
(cDo (AS .free (AP 6 g60 g55))
(cOp t61 (AY 6 g0 g50)
(cDo (AS .free (AP 6 g61 g59))
(cOp t64 (As Int.sub .i64 g9 g1)
(cOp t65 (AM iGe .i64 g64 (kV (.int .i64 2)))
(Al (AJ g65
(cOp t67 (As Int.sub .i64 g9 (kV (.int .i64 1)))
(cOp t11 (AC g67)
(AK 4 (Aj (cOp t69 (AM iGe .i64 g11 (kV (.int .i64 1)))
(AJ g69
(Al (AK 5 (Ar (cOp t75 (AY 6 g0 g11)
(cOp t76 (Ac 6 g75)
(cOp t79 (As Int.sub .i64 g11 (kV (.int .i64 1)))
(cOp t80 (AY 6 g0 g79)
(cOp t81 (Ac 6 g80)
(cOp t82 (AS .free (B8 g3 [g76, g81]))
(cOp t83 (AM iLt .i64 g82 (kV (.int .i64 0)))
(cOp t84 (Bo g83)
(AJ g84
(At 4)
(Ar (cOp t89 (As Int.sub .i64 g11 (kV (.int .i64 1)))
(cOp t92 (As Int.sub .i64 g11 (kV (.int .i64 1)))
(cOp t93 (AY 6 g0 g92)
(cOp t94 (Ac 6 g93)
(cOp t97 (AY 6 g0 g11)
(cOp t98 (Ac 6 g97)
(cOp t99 (AY 6 g0 g11)
(cDo (AS .free (AP 6 g99 g94))
(cOp NP (AY 6 g0 g89)
(cDo (AS .free (AP 6 L8 g98))
AO))))))))))))))))))))))
(cOp t71 (As Int.sub .i64 g11 (kV (.int .i64 1)))
(cOp t11 (AC g71)
AO)))
(At 4)))))))
AO)
(cOp LX (As Int.sub .i64 g2 g9)
(cOp LY (AM iGe .i64 Jr (kV (.int .i64 2)))
(AJ K5
(cOp Of (Ai .i64 (AQ .i64) g9 (kV (.int .i64 1)))
(cOp t12 (AC N1)
(AK 6 (Aj (cOp Oh (AM iLt .i64 g12 g2)
(AJ N3
(Al (AK 7 (Ar (cOp Tl (AY 6 g0 g12)
(cOp LZ (Ac 6 SG)
(cOp NV (As Int.sub .i64 g12 (kV (.int .i64 1)))
(cOp NW (AY 6 g0 MC)
(cOp Oj (Ac 6 MD)
(cOp Ok (AS .free (B8 g3 [Gy, K7]))
(cOp Ol (AM iLt .i64 N4 (kV (.int .i64 0)))
(cOp Q6 (Bo IG)
(AJ QE
(At 6)
(Ar (cOp NY (As Int.sub .i64 g12 (kV (.int .i64 1)))
(cOp Om (As Int.sub .i64 g12 (kV (.int .i64 1)))
(cOp XF (AY 6 g0 QI)
(cOp On (Ac 6 Vc)
(cOp XH (AY 6 g0 g12)
(cOp To (Ac 6 Vf)
(cOp XI (AY 6 g0 g12)
(cDo (AS .free (AP 6 Vh QJ))
(cOp fP (AY 6 g0 MF)
(cDo (AS .free (AP 6 dz Vg))
AO))))))))))))))))))))))
(cOp NR (Ai .i64 (AQ .i64) g12 (kV (.int .i64 1)))
(cOp t12 (AC K6)
AO)))
(At 6)))))))
AO))))))))))))))))))))))))
(cOp t18 (Ai .i64 (AQ .i64) g10 (kV (.int .i64 1)))
(cOp t10 (AC g18)
AO)))
(At 0)))))
(cOp t8 (AC (kV (.bool false)))
AU))))))
def b93 : Body := ⟨[.t g8], c93⟩
def dW : List Nat := [13, 15, 17, 19, 20, 22, 37, 39, 40, 42, 43, 46, 47, 48, 49, 51, 52, 56, 57, 62, 63, 66, 68, 70, 72, 73, 74, 77, 78, 85, 86, 87, 88, 90, 91, 95, 96, 101, 102, 105, 107, 108, 110, 112, 113, 114, 117, 118, 125, 126, 127, 128, 130, 131, 135, 136]
theorem ZY : Am ty dW Tryz.f93 = some b93 := by kernel_rfl
def c94 : C :=
(cOp t10 (AC (kV (.int .i64 0)))
(Ar (cOp t19 (AY 6 g0 g3)
(cOp t20 (Ac 6 g19)
(cOp t23 (AY 6 g0 g1)
(cOp t24 (Ac 6 g23)
(cOp t25 (AY 6 g0 g1)
(cDo (AS .free (AP 6 g25 g20))
(cOp t26 (AY 6 g0 g3)
(cDo (AS .free (AP 6 g26 g24))
(cOp t28 (Ai .i64 (AQ .i64) g1 (kV (.int .i64 1)))
(cOp t30 (As Int.sub .i64 g2 (kV (.int .i64 1)))
(cOp t11 (AC g28)
(cOp t12 (AC g30)
(Al (AK 0 (Aj (AK 1 (Al (AK 2 (Aj (Ar (cOp t33 (AM iLe .i64 g11 g12)
(cG g33 true t35 (AC g4)
(cG g33 true t36 (AC g0)
(cG g33 true t37 (AC g1)
(cG g33 true t38 (AY 6 g36 g37)
(cG g33 true t39 (Ac 6 g38)
(cG g33 true t40 (AC g0)
(cG g33 true t41 (AC g11)
(cG g33 true t42 (AY 6 g40 g41)
(cG g33 true t43 (Ac 6 g42)
(cG g33 true t44 (AS .free (B8 g35 [g39, g43]))
(cG g33 true t45 (AM iLt .i64 g44 (kV (.int .i64 0)))
(cG g33 true t46 (Bo g45)
(cOp t47 (AW g33 g46 (kV (.bool false)))
(AJ g47
(AK 3 (cOp t49 (Ai .i64 (AQ .i64) g11 (kV (.int .i64 1)))
(cOp t11 (AC g49)
AO)))
(At 2)))))))))))))))))))
(Al (AK 4 (Aj (Ar (cOp t52 (AM iLe .i64 g11 g12)
(cG g52 true t54 (AC g4)
(cG g52 true t55 (AC g0)
(cG g52 true t56 (AC g1)
(cG g52 true t57 (AY 6 g55 g56)
(cG g52 true t58 (Ac 6 g57)
(cG g52 true t59 (AC g0)
(cG g52 true t60 (AC g12)
(cG g52 true t61 (AY 6 g59 g60)
(cG g52 true t62 (Ac 6 g61)
(cG g52 true t63 (AS .free (B8 g54 [g58, g62]))
(cG g52 true t64 (AM iLt .i64 g63 (kV (.int .i64 0)))
(cOp t65 (AW g52 g64 (kV (.bool false)))
(AJ g65
(AK 5 (cOp t67 (As Int.sub .i64 g12 (kV (.int .i64 1)))
(cOp t12 (AC g67)
AO)))
(At 4))))))))))))))))))
(cOp t70 (AM iGt .i64 g11 g12)
(AJ g70
(At 0)
(Ar (cOp t77 (AY 6 g0 g12)
(cOp t78 (Ac 6 g77)
(cOp t81 (AY 6 g0 g11)
(cOp t82 (Ac 6 g81)
(cOp t83 (AY 6 g0 g11)
(cDo (AS .free (AP 6 g83 g78))
(cOp t84 (AY 6 g0 g12)
(cDo (AS .free (AP 6 g84 g82))
(cOp t86 (Ai .i64 (AQ .i64) g11 (kV (.int .i64 1)))
(cOp t11 (AC g86)
(cOp t88 (As Int.sub .i64 g12 (kV (.int .i64 1)))
(cOp t12 (AC g88)
AO))))))))))))))))))))
(cOp t10 (AC g11)
AU))))))))))))))))
def b94 : Body := ⟨[.t g10], c94⟩
def dX : List Nat := [13, 14, 15, 16, 17, 18, 21, 22, 27, 29, 31, 32, 34, 48, 50, 51, 53, 66, 68, 69, 71, 72, 73, 74, 75, 76, 79, 80, 85, 87, 89]
theorem ZZ : Am ty dX Tryz.f94 = some b94 := by kernel_rfl
def c95 : C :=
(cOp t10 (AC (kV (.int .i64 0)))
(cOp t11 (AC (kV (.bool false)))
(Ar (cOp t20 (AY 6 g0 g3)
(cOp t21 (Ac 6 g20)
(cOp t24 (AY 6 g0 g1)
(cOp t25 (Ac 6 g24)
(cOp t26 (AY 6 g0 g1)
(cDo (AS .free (AP 6 g26 g21))
(cOp t27 (AY 6 g0 g3)
(cDo (AS .free (AP 6 g27 g25))
(cOp t29 (Ai .i64 (AQ .i64) g1 (kV (.int .i64 1)))
(cOp t31 (As Int.sub .i64 g2 (kV (.int .i64 1)))
(cOp t12 (AC g29)
(cOp t13 (AC g31)
(Al (AK 0 (Aj (Ar (cOp t34 (AM iLe .i64 g12 g13)
(cG g34 true t36 (AC g4)
(cG g34 true t37 (AC g0)
(cG g34 true t38 (AC g12)
(cG g34 true t39 (AY 6 g37 g38)
(cG g34 true t40 (Ac 6 g39)
(cG g34 true t41 (AC g0)
(cG g34 true t42 (AC g1)
(cG g34 true t43 (AY 6 g41 g42)
(cG g34 true t44 (Ac 6 g43)
(cG g34 true t45 (AS .free (B8 g36 [g40, g44]))
(cG g34 true t46 (AM iLt .i64 g45 (kV (.int .i64 0)))
(cOp t47 (AW g34 g46 (kV (.bool false)))
(AJ g47
(AK 1 (cOp t49 (Ai .i64 (AQ .i64) g12 (kV (.int .i64 1)))
(cOp t12 (AC g49)
AO)))
(At 0))))))))))))))))))
(Al (AK 2 (Aj (Ar (cOp t52 (AM iLe .i64 g12 g13)
(cG g52 true t54 (AC g4)
(cG g52 true t55 (AC g0)
(cG g52 true t56 (AC g13)
(cG g52 true t57 (AY 6 g55 g56)
(cG g52 true t58 (Ac 6 g57)
(cG g52 true t59 (AC g0)
(cG g52 true t60 (AC g1)
(cG g52 true t61 (AY 6 g59 g60)
(cG g52 true t62 (Ac 6 g61)
(cG g52 true t63 (AS .free (B8 g54 [g58, g62]))
(cG g52 true t64 (AM iLt .i64 g63 (kV (.int .i64 0)))
(cG g52 true t65 (Bo g64)
(cOp t66 (AW g52 g65 (kV (.bool false)))
(AJ g66
(AK 3 (cOp t68 (As Int.sub .i64 g13 (kV (.int .i64 1)))
(cOp t13 (AC g68)
AO)))
(At 2)))))))))))))))))))
(cOp t71 (AM iGt .i64 g12 g13)
(AJ g71
(Ar (cOp t78 (AY 6 g0 g1)
(cOp t79 (Ac 6 g78)
(cOp t82 (AY 6 g0 g13)
(cOp t83 (Ac 6 g82)
(cOp t84 (AY 6 g0 g13)
(cDo (AS .free (AP 6 g84 g79))
(cOp t85 (AY 6 g0 g1)
(cDo (AS .free (AP 6 g85 g83))
(cOp t10 (AC g13)
(cOp t11 (AC (kV (.bool true)))
AU)))))))))))
(Ar (cOp t93 (AY 6 g0 g13)
(cOp t94 (Ac 6 g93)
(cOp t97 (AY 6 g0 g12)
(cOp t98 (Ac 6 g97)
(cOp t99 (AY 6 g0 g12)
(cDo (AS .free (AP 6 g99 g94))
(cOp NP (AY 6 g0 g13)
(cDo (AS .free (AP 6 L8 g98))
(cOp Q2 (Ai .i64 (AQ .i64) g12 (kV (.int .i64 1)))
(cOp t12 (AC K4)
(cOp LY (As Int.sub .i64 g13 (kV (.int .i64 1)))
(cOp t13 (AC K5)
(Al (AK 4 (Aj (AK 5 (Al (AK 6 (Aj (Ar (cOp Q4 (AM iLe .i64 g12 g13)
(cG EJ true Oh (AC g4)
(cG EJ true NQ (AC g0)
(cG EJ true NR (AC g12)
(cG EJ true NS (AY 6 L9 K6)
(cG EJ true NT (Ac 6 MA)
(cG EJ true NU (AC g0)
(cG EJ true Tl (AC g1)
(cG EJ true LZ (AY 6 GU SG)
(cG EJ true Oi (Ac 6 Gy)
(cG EJ true Q5 (AS .free (B8 N3 [MB, Ff]))
(cG EJ true NV (AM iLt .i64 QD (kV (.int .i64 0)))
(cOp NW (AW EJ MC (kV (.bool false)))
(AJ MD
(AK 7 (cOp Ok (Ai .i64 (AQ .i64) g12 (kV (.int .i64 1)))
(cOp t12 (AC N4)
AO)))
(At 6))))))))))))))))))
(Al (AK 8 (Aj (Ar (cOp La (AM iLe .i64 g12 g13)
(cG Eg true Q7 (AC g4)
(cG Eg true Q8 (AC g0)
(cG Eg true NY (AC g13)
(cG Eg true Q9 (AY 6 QG MF)
(cG Eg true Tm (Ac 6 QH)
(cG Eg true Om (AC g0)
(cG Eg true XF (AC g1)
(cG Eg true On (AY 6 QI Vc)
(cG Eg true XG (Ac 6 QJ)
(cG Eg true Tn (AS .free (B8 QF [SH, Vd]))
(cG Eg true XH (AM iLt .i64 SI (kV (.int .i64 0)))
(cG Eg true To (Bo Vf)
(cOp XI (AW Eg Vg (kV (.bool false)))
(AJ Vh
(AK 9 (cOp XJ (As Int.sub .i64 g13 (kV (.int .i64 1)))
(cOp t13 (AC Vi)
AO)))
(At 8)))))))))))))))))))
(cOp fQ (AM iGt .i64 g12 g13)
(AJ d5
(At 4)
(Ar (cOp fV (AY 6 g0 g13)
(cOp bN (Ac 6 eF)
(cOp fW (AY 6 g0 g12)
(cOp fX (Ac 6 eG)
(cOp fY (AY 6 g0 g12)
(cDo (AS .free (AP 6 eI aM))
(cOp fZ (AY 6 g0 g13)
(cDo (AS .free (AP 6 eJ eH))
(cOp bO (Ai .i64 (AQ .i64) g12 (kV (.int .i64 1)))
(cOp t12 (AC aN)
(cOp fb (As Int.sub .i64 g13 (kV (.int .i64 1)))
(cOp t13 (AC eL)
AO))))))))))))))))))))
(Ar (cOp fh (AY 6 g0 g1)
(cOp fj (Ac 6 eQ)
(cOp fk (AY 6 g0 g13)
(cOp fl (Ac 6 eS)
(cOp fm (AY 6 g0 g13)
(cDo (AS .free (AP 6 eU eR))
(cOp fo (AY 6 g0 g1)
(cDo (AS .free (AP 6 eV eT))
(cOp t10 (AC g13)
(cOp t11 (AC (kV (.bool false)))
AU))))))))))))))))))))))))))))))))))))))))))))
def b95 : Body := ⟨[.t g10, .t g11], c95⟩
def dY : List Nat := [14, 15, 16, 17, 18, 19, 22, 23, 28, 30, 32, 33, 35, 48, 50, 51, 53, 67, 69, 70, 72, 73, 74, 75, 76, 77, 80, 81, 86, 87, 88, 89, 90, 91, 92, 95, 96, 101, 103, 105, 106, 108, 121, 123, 124, 126, 140, 142, 143, 145, 146, 147, 148, 149, 150, 153, 154, 159, 161, 163, 164, 165, 166, 167, 168, 171, 172, 177]
theorem Za : Am ty dY Tryz.f95 = some b95 := by kernel_rfl
def c96 : C :=
(cOp t2 (AC (kV (.int .i64 0)))
(cOp t4 (AM iGe .u32 g0 (kV (.int .u32 65536)))
(Al (AJ g4
(cOp t6 (FE .u32 g0 (kV (.int .u64 16)))
(cOp t0 (AC g6)
(cOp t2 (AC (kV (.int .i64 16)))
AO)))
AO)
(cOp t8 (AM iGe .u32 g0 (kV (.int .u32 256)))
(Al (AJ g8
(cOp t10 (FE .u32 g0 (kV (.int .u64 8)))
(cOp t0 (AC g10)
(cOp t12 (Ai .i64 (AQ .i64) g2 (kV (.int .i64 8)))
(cOp t2 (AC g12)
AO))))
AO)
(cOp t15 (An .u8 g0)
(cOp t16 (Hn (kV (.string ⟨#[0, 1, 2, 2, 3, 3, 3, 3, 4, 4, 4, 4, 4, 4, 4, 4, 5, 5, 5, 5, 5, 5, 5, 5, 5, 5, 5, 5, 5, 5, 5, 5, 6, 6, 6, 6, 6, 6, 6, 6, 6, 6, 6, 6, 6, 6, 6, 6, 6, 6, 6, 6, 6, 6, 6, 6, 6, 6, 6, 6, 6, 6, 6, 6, 7, 7, 7, 7, 7, 7, 7, 7, 7, 7, 7, 7, 7, 7, 7, 7, 7, 7, 7, 7, 7, 7, 7, 7, 7, 7, 7, 7, 7, 7, 7, 7, 7, 7, 7, 7, 7, 7, 7, 7, 7, 7, 7, 7, 7, 7, 7, 7, 7, 7, 7, 7, 7, 7, 7, 7, 7, 7, 7, 7, 7, 7, 7, 7, 8, 8, 8, 8, 8, 8, 8, 8, 8, 8, 8, 8, 8, 8, 8, 8, 8, 8, 8, 8, 8, 8, 8, 8, 8, 8, 8, 8, 8, 8, 8, 8, 8, 8, 8, 8, 8, 8, 8, 8, 8, 8, 8, 8, 8, 8, 8, 8, 8, 8, 8, 8, 8, 8, 8, 8, 8, 8, 8, 8, 8, 8, 8, 8, 8, 8, 8, 8, 8, 8, 8, 8, 8, 8, 8, 8, 8, 8, 8, 8, 8, 8, 8, 8, 8, 8, 8, 8, 8, 8, 8, 8, 8, 8, 8, 8, 8, 8, 8, 8, 8, 8, 8, 8, 8, 8, 8, 8, 8, 8, 8, 8, 8, 8, 8, 8, 8, 8, 8, 8, 8, 8, 8, 8, 8, 8, 8, 8]⟩)) g15)
(cOp t17 (An .i64 g16)
(cOp t18 (Ai .i64 (AQ .i64) g2 g17)
(cOp t2 (AC g18)
AU))))))))))
def b96 : Body := ⟨[.t g2], c96⟩
def dZ : List Nat := [3, 5, 7, 9, 11, 13, 14]
theorem Zb : Am ty dZ Tryz.f96 = some b96 := by kernel_rfl
def c97 : C :=
(cOp t2 (AC (kV (.int .i64 0)))
(cOp t4 (AM iGe .u64 g0 (kV (.int .u64 4294967296)))
(Al (AJ g4
(cOp t6 (FE .u64 g0 (kV (.int .u64 32)))
(cOp t0 (AC g6)
(cOp t2 (AC (kV (.int .i64 32)))
AO)))
AO)
(cOp t8 (AM iGe .u64 g0 (kV (.int .u64 65536)))
(Al (AJ g8
(cOp t10 (FE .u64 g0 (kV (.int .u64 16)))
(cOp t0 (AC g10)
(cOp t12 (Ai .i64 (AQ .i64) g2 (kV (.int .i64 16)))
(cOp t2 (AC g12)
AO))))
AO)
(cOp t14 (AM iGe .u64 g0 (kV (.int .u64 256)))
(Al (AJ g14
(cOp t16 (FE .u64 g0 (kV (.int .u64 8)))
(cOp t0 (AC g16)
(cOp t18 (Ai .i64 (AQ .i64) g2 (kV (.int .i64 8)))
(cOp t2 (AC g18)
AO))))
AO)
(cOp t21 (An .u8 g0)
(cOp t22 (Hn (kV (.string ⟨#[0, 1, 2, 2, 3, 3, 3, 3, 4, 4, 4, 4, 4, 4, 4, 4, 5, 5, 5, 5, 5, 5, 5, 5, 5, 5, 5, 5, 5, 5, 5, 5, 6, 6, 6, 6, 6, 6, 6, 6, 6, 6, 6, 6, 6, 6, 6, 6, 6, 6, 6, 6, 6, 6, 6, 6, 6, 6, 6, 6, 6, 6, 6, 6, 7, 7, 7, 7, 7, 7, 7, 7, 7, 7, 7, 7, 7, 7, 7, 7, 7, 7, 7, 7, 7, 7, 7, 7, 7, 7, 7, 7, 7, 7, 7, 7, 7, 7, 7, 7, 7, 7, 7, 7, 7, 7, 7, 7, 7, 7, 7, 7, 7, 7, 7, 7, 7, 7, 7, 7, 7, 7, 7, 7, 7, 7, 7, 7, 8, 8, 8, 8, 8, 8, 8, 8, 8, 8, 8, 8, 8, 8, 8, 8, 8, 8, 8, 8, 8, 8, 8, 8, 8, 8, 8, 8, 8, 8, 8, 8, 8, 8, 8, 8, 8, 8, 8, 8, 8, 8, 8, 8, 8, 8, 8, 8, 8, 8, 8, 8, 8, 8, 8, 8, 8, 8, 8, 8, 8, 8, 8, 8, 8, 8, 8, 8, 8, 8, 8, 8, 8, 8, 8, 8, 8, 8, 8, 8, 8, 8, 8, 8, 8, 8, 8, 8, 8, 8, 8, 8, 8, 8, 8, 8, 8, 8, 8, 8, 8, 8, 8, 8, 8, 8, 8, 8, 8, 8, 8, 8, 8, 8, 8, 8, 8, 8, 8, 8, 8, 8, 8, 8, 8, 8, 8, 8]⟩)) g21)
(cOp t23 (An .i64 g22)
(cOp t24 (Ai .i64 (AQ .i64) g2 g23)
(cOp t2 (AC g24)
AU))))))))))))
def b97 : Body := ⟨[.t g2], c97⟩
def da : List Nat := [3, 5, 7, 9, 11, 13, 15, 17, 19, 20]
theorem Zc : Am ty da Tryz.f97 = some b97 := by kernel_rfl
def c98 : C :=
(cOp t2 (AC (kV (.bool false)))
(cOp t5 (AM iNe .i64 g0 g0)
(cOp t2 (AC g5)
AU)))
def b98 : Body := ⟨[.t g2], c98⟩
def db : List Nat := [3, 4]
theorem Zd : Am ty db Tryz.f98 = some b98 := by kernel_rfl
def c99 : C :=
(cOp t2 (AC (kV (.int .i64 0)))
(cOp t4 (BF g0)
(cOp t5 (AE 2 g4)
(cOp t6 (AG g5)
(cOp t7 (AM iEq .i64 g6 (kV (.int .i64 0)))
(AJ g7
(cOp t10 (BF g0)
(cOp t11 (AE 3 g10)
(cDo (AP 1 g11 (kV (.bool true)))
(cOp t12 (BF g0)
(cOp t13 (AE 2 g12)
(cDo (AP 1 g13 (kV (.int .i64 (-1))))
(cOp t2 (AC (kV (.int .i64 15)))
AU)))))))
(cOp t16 (BF g0)
(cOp t17 (AE 2 g16)
(cOp t18 (AG g17)
(cOp t19 (As Int.sub .i64 g18 (kV (.int .i64 1)))
(cOp t20 (WZ g19 (kV (.int .i64 (-1))))
(cOp t21 (BF g0)
(cOp t22 (AE 2 g21)
(cDo (AP 1 g22 g20)
(cOp t2 (AC (kV (.int .i64 0)))
AU)))))))))))))))
def b99 : Body := ⟨[.t g2], c99⟩
def de : List Nat := [3, 8, 9, 14, 15]
theorem Ze : Am ty de Tryz.f99 = some b99 := by kernel_rfl
def iF : C :=
(cOp t3 (CG g0)
(cOp t4 (AC (kV (.bool false)))
(cOp t5 (AE 0 g3)
(cOp t6 (AE 0 g5)
(cOp t7 (AG g6)
(cOp t8 (AG g1)
(cOp t9 (AM iEq .i64 g7 g8)
(cG g9 true t11 (AE 0 g3)
(cG g9 true t12 (AE 1 g11)
(cG g9 true t13 (AG g12)
(cG g9 true t14 (AG g2)
(cG g9 true t15 (AM iEq .i64 g13 g14)
(cOp t16 (AW g9 g15 (kV (.bool false)))
(cG g16 true t18 (AE 0 g3)
(cG g16 true t19 (AE 3 g18)
(cG g16 true t20 (AG g19)
(cG g16 true t21 (AM iEq .u8 g20 (kV (.int .u8 2)))
(cOp t22 (AW g16 g21 (kV (.bool false)))
(cOp t4 (AC g22)
AU)))))))))))))))))))
def UR : Body := ⟨[.t g4], iF⟩
def XY : List Nat := [10, 17]
theorem US : Am ty XY Tryz.f100 = some UR := by kernel_rfl
def iG : C :=
(cOp t8 (AC (kV (.bool true)))
(cOp t9 (AC (kV (.bool true)))
(AK 0 (Aj (AK 1 (cOp t21 (As Int.sub .i64 g2 g1)
(cOp t10 (AC g21)
(cOp t23 (AM iLe .i64 g10 (kV (.int .i64 12)))
(AJ g23
(cOp t27 (AL 107 [g0, g1, g2])
AU)
(cOp t29 (AM iEq .i64 g3 (kV (.int .i64 0)))
(AJ g29
(cOp t33 (AL 108 [g0, g1, g2])
AU)
(cOp t35 (Bo g8)
(Al (AJ g35
(cOp t39 (AL 109 [g0, g1, g2])
(cOp t41 (As Int.sub .i64 g3 (kV (.int .i64 1)))
(cOp t3 (AC g41)
AO)))
AO)
(cOp t46 (AL 110 [g0, g1, g2])
(cOp t47 (AN 0 g46)
(cOp t48 (AN 1 g46)
(cOp t11 (AC g47)
(cOp t12 (AC g48)
(cOp t50 (AM iEq .i64 g12 (kV (.int .i64 2)))
(Al (AJ g50
(cOp t54 (AL 111 [g0, g1, g2])
(cOp t56 (As Int.sub .i64 g2 (kV (.int .i64 1)))
(cOp t59 (As Int.sub .i64 g11 g1)
(cOp t60 (As Int.sub .i64 g56 g59)
(cOp t11 (AC g60)
(cOp t12 (AC (kV (.int .i64 1)))
AO))))))
AO)
(cG g8 true t63 (AC g9)
(cOp t64 (AW g8 g63 (kV (.bool false)))
(cG g64 true t66 (AC g12)
(cG g64 true t67 (AM iEq .i64 g66 (kV (.int .i64 1)))
(cOp t68 (AW g64 g67 (kV (.bool false)))
(Al (AJ g68
(cOp t72 (AL 112 [g0, g1, g2])
(AJ g72
AU
AO))
AO)
(Ar (cOp t74 (AM iGt .i64 g1 (kV (.int .i64 0)))
(cG g74 true t76 (AC g0)
(cG g74 true t77 (AC g1)
(cG g74 true t78 (As Int.sub .i64 g77 (kV (.int .i64 1)))
(cG g74 true t79 (AY 1 g76 g78)
(cG g74 true t80 (AG g79)
(cG g74 true t81 (AC g0)
(cG g74 true t82 (AC g11)
(cG g74 true t83 (AY 1 g81 g82)
(cG g74 true t84 (AG g83)
(cG g74 true t85 (AS .free (AL 113 [g80, g84]))
(cG g74 true t86 (Bo g85)
(cOp t87 (AW g74 g86 (kV (.bool false)))
(AJ g87
(cOp t92 (AL 114 [g0, g1, g2, g11])
(cOp t13 (AC g92)
(cOp t1 (AC g13)
(At 1))))
(cOp t99 (AL 115 [g0, g1, g2, g11])
(cOp NP (AN 0 g99)
(cOp Q1 (AN 1 g99)
(cOp t14 (AC L8)
(cOp t15 (AC GT)
(cOp t9 (AC g15)
(cOp Q3 (As Int.sub .i64 g14 g1)
(cOp Og (As Int.sub .i64 g2 g14)
(cOp t16 (AC QC)
(cOp t17 (AC N2)
(cOp NQ (Ch .i64 g10 (kV (.int .i64 8)))
(cOp t18 (AC L9)
(cOp NT (AM iLt .i64 g16 g17)
(AJ MB
(cOp LZ (AM iGe .i64 g16 g18)
(cOp t8 (AC Gy)
(cOp Oj (AL 101 [g0, g1, g14, g3])
(cOp Ol (Ai .i64 (AQ .i64) g14 (kV (.int .i64 1)))
(cOp t1 (AC IG)
AO)))))
(cOp NX (AM iGe .i64 g17 g18)
(cOp t8 (AC ME)
(cOp NY (Ai .i64 (AQ .i64) g14 (kV (.int .i64 1)))
(cOp Om (AL 101 [g0, MF, g2, g3])
(cOp t2 (AC g14)
AO))))))))))))))))))))))))))))))))))))))))))))))))))))))))))))
def UT : Body := ⟨[], iG⟩
def XZ : List Nat := [19, 20, 22, 24, 25, 26, 28, 30, 31, 32, 34, 36, 37, 38, 40, 42, 43, 44, 45, 49, 51, 52, 53, 55, 57, 58, 61, 62, 65, 69, 70, 71, 73, 75, 88, 89, 90, 91, 93, 94, 95, 96, 97, 98, 102, 103, 104, 106, 107, 109, 111, 112, 114, 115, 117, 118, 119, 120, 122, 124, 125, 127, 128, 130, 131, 133]
theorem UU : Am ty XZ Tryz.f101 = some UT := by kernel_rfl
def iH : C :=
(cOp t10 (AC g1)
(AK 0 (Aj (AK 1 (cOp t14 (As Int.mul .i64 (kV (.int .i64 2)) g10)
(cOp t15 (Ai .i64 (AQ .i64) g14 (kV (.int .i64 1)))
(cOp t11 (AC g15)
(cOp t18 (AM iGe .i64 g11 g2)
(AJ g18
(At 0)
(Ar (cOp t20 (Ai .i64 (AQ .i64) g11 (kV (.int .i64 1)))
(cOp t22 (AM iLt .i64 g20 g2)
(cG g22 true t24 (AC g4)
(cG g22 true t25 (AC g0)
(cG g22 true t26 (AC g3)
(cG g22 true t27 (AC g11)
(cG g22 true t28 (Ai .i64 (AQ .i64) g26 g27)
(cG g22 true t29 (AY 6 g25 g28)
(cG g22 true t30 (Ac 6 g29)
(cG g22 true t31 (AC g0)
(cG g22 true t32 (AC g3)
(cG g22 true t33 (AC g11)
(cG g22 true t34 (Ai .i64 (AQ .i64) g32 g33)
(cG g22 true t35 (Ai .i64 (AQ .i64) g34 (kV (.int .i64 1)))
(cG g22 true t36 (AY 6 g31 g35)
(cG g22 true t37 (Ac 6 g36)
(cG g22 true t38 (AS .free (B8 g24 [g30, g37]))
(cG g22 true t39 (AM iLt .i64 g38 (kV (.int .i64 0)))
(cOp t40 (AW g22 g39 (kV (.bool false)))
(Al (AJ g40
(cOp t42 (Ai .i64 (AQ .i64) g11 (kV (.int .i64 1)))
(cOp t11 (AC g42)
AO))
AO)
(Ar (cOp t47 (Ai .i64 (AQ .i64) g3 g10)
(cOp t48 (AY 6 g0 g47)
(cOp t49 (Ac 6 g48)
(cOp t53 (Ai .i64 (AQ .i64) g3 g11)
(cOp t54 (AY 6 g0 g53)
(cOp t55 (Ac 6 g54)
(cOp t56 (AS .free (B8 g4 [g49, g55]))
(cOp t57 (AM iLt .i64 g56 (kV (.int .i64 0)))
(cOp t58 (Bo g57)
(AJ g58
AU
(Ar (cOp t62 (Ai .i64 (AQ .i64) g3 g10)
(cOp t66 (Ai .i64 (AQ .i64) g3 g11)
(cOp t70 (Ai .i64 (AQ .i64) g3 g11)
(cOp t71 (AY 6 g0 g70)
(cOp t72 (Ac 6 g71)
(cOp t76 (Ai .i64 (AQ .i64) g3 g10)
(cOp t77 (AY 6 g0 g76)
(cOp t78 (Ac 6 g77)
(cOp t79 (AY 6 g0 g62)
(cDo (AS .free (AP 6 g79 g72))
(cOp t80 (AY 6 g0 g66)
(cDo (AS .free (AP 6 g80 g78))
(cOp t10 (AC g11)
AO)))))))))))))))))))))))))))))))))))))))))))))))))))))))
def UV : Body := ⟨[], iH⟩
def Xa : List Nat := [12, 13, 16, 17, 19, 21, 23, 41, 43, 44, 45, 46, 50, 51, 52, 59, 60, 61, 63, 64, 65, 67, 68, 69, 73, 74, 75, 81]
theorem UW : Am ty Xa Tryz.f102 = some UV := by kernel_rfl
def iI : C :=
(cOp t2 (AC (kV (.int .u64 0)))
(cOp t4 (An .u64 g0)
(cOp t5 (AL 71 [g4])
(cOp t6 (Ga .u64 (kV (.int .u64 1)) g5)
(cOp t2 (AC g6)
AU)))))
def UX : Body := ⟨[.t g2], iI⟩
def Xb : List Nat := [3]
theorem UY : Am ty Xb Tryz.f103 = some UX := by kernel_rfl
def iJ : C :=
(cOp t2 (AC (kV (.int .u64 0)))
(Ar (cOp t4 (BF g0)
(cOp t5 (AG g4)
(cOp t7 (BF g0)
(cOp t8 (AG g7)
(cOp t9 (Ga .u64 g8 (kV (.int .u64 13)))
(cOp t10 (DP Nat.xor .u64 g5 g9)
(cOp t11 (BF g0)
(cDo (AS .free (AP 1 g11 g10))
(Ar (cOp t13 (BF g0)
(cOp t14 (AG g13)
(cOp t16 (BF g0)
(cOp t17 (AG g16)
(cOp t18 (FE .u64 g17 (kV (.int .u64 7)))
(cOp t19 (DP Nat.xor .u64 g14 g18)
(cOp t20 (BF g0)
(cDo (AS .free (AP 1 g20 g19))
(Ar (cOp t22 (BF g0)
(cOp t23 (AG g22)
(cOp t25 (BF g0)
(cOp t26 (AG g25)
(cOp t27 (Ga .u64 g26 (kV (.int .u64 17)))
(cOp t28 (DP Nat.xor .u64 g23 g27)
(cOp t29 (BF g0)
(cDo (AS .free (AP 1 g29 g28))
(cOp t31 (BF g0)
(cOp t32 (AG g31)
(cOp t2 (AC g32)
AU)))))))))))))))))))))))))))))))
def UZ : Body := ⟨[.t g2], iJ⟩
def Xc : List Nat := [3, 6, 12, 15, 21, 24, 30]
theorem Ua : Am ty Xc Tryz.f104 = some UZ := by kernel_rfl
def iK : C :=
(cOp t8 (AC (kV (.int .i64 0)))
(cOp t11 (As Int.sub .i64 g1 (kV (.int .i64 1)))
(cOp t14 (Ai .i64 (AQ .i64) g1 (kV (.int .i64 1)))
(cOp t17 (AL 106 [g0, g11, g1, g14, g2, g3])
(cOp t8 (AC g17)
AU)))))
def Ub : Body := ⟨[.t g8], iK⟩
def Xd : List Nat := [9, 10, 12, 13, 15, 16]
theorem Uc : Am ty Xd Tryz.f105 = some Ub := by kernel_rfl
def iL : C :=
(cOp t12 (AC (kV (.int .i64 0)))
(cOp t19 (AL 116 [g0, g1, g2, g4, g5])
(cOp t20 (AN 0 g19)
(cOp t21 (AN 1 g19)
(cOp t1 (AC g20)
(cOp t2 (AC g21)
(cOp t28 (AL 116 [g0, g2, g3, g4, g5])
(cOp t29 (AN 0 g28)
(cOp t30 (AN 1 g28)
(cOp t2 (AC g29)
(cOp t3 (AC g30)
(cOp t37 (AL 116 [g0, g1, g2, g4, g5])
(cOp t38 (AN 0 g37)
(cOp t39 (AN 1 g37)
(cOp t1 (AC g38)
(cOp t2 (AC g39)
(cOp t12 (AC g2)
AU)))))))))))))))))
def Ud : Body := ⟨[.t g12], iL⟩
def Xe : List Nat := [13, 14, 15, 16, 17, 18, 22, 23, 24, 25, 26, 27, 31, 32, 33, 34, 35, 36, 40]
theorem Ue : Am ty Xe Tryz.f106 = some Ud := by kernel_rfl
def iM : C :=
(cOp t9 (Ai .i64 (AQ .i64) g1 (kV (.int .i64 1)))
(cOp t6 (AC g9)
(AK 0 (Aj (cOp t12 (AM iLt .i64 g6 g2)
(AJ g12
(Al (AK 1 (cOp t7 (AC g6)
(AK 2 (Aj (Ar (cOp t18 (AM iGt .i64 g7 g1)
(cG g18 true t20 (AC g0)
(cG g18 true t21 (AC g7)
(cG g18 true t22 (AY 1 g20 g21)
(cG g18 true t23 (AG g22)
(cG g18 true t24 (AC g0)
(cG g18 true t25 (AC g7)
(cG g18 true t26 (As Int.sub .i64 g25 (kV (.int .i64 1)))
(cG g18 true t27 (AY 1 g24 g26)
(cG g18 true t28 (AG g27)
(cG g18 true t29 (AS .free (AL 113 [g23, g28]))
(cOp t30 (AW g18 g29 (kV (.bool false)))
(AJ g30
(Al (AK 3 (Ar (cOp t37 (As Int.sub .i64 g7 (kV (.int .i64 1)))
(cOp t40 (As Int.sub .i64 g7 (kV (.int .i64 1)))
(cOp t41 (AY 1 g0 g40)
(cOp t42 (AG g41)
(cOp t45 (AY 1 g0 g7)
(cOp t46 (AG g45)
(cOp t47 (AY 1 g0 g7)
(cDo (AS .free (AP 1 g47 g42))
(cOp t48 (AY 1 g0 g37)
(cDo (AS .free (AP 1 g48 g46))
AO))))))))))))
(cOp t32 (As Int.sub .i64 g7 (kV (.int .i64 1)))
(cOp t7 (AC g32)
AO)))
(At 2)))))))))))))))))))
(cOp t14 (Ai .i64 (AQ .i64) g6 (kV (.int .i64 1)))
(cOp t6 (AC g14)
AO)))
(At 0)))))))
def Uf : Body := ⟨[], iM⟩
def Xf : List Nat := [8, 10, 11, 13, 15, 16, 17, 19, 31, 33, 34, 35, 36, 38, 39, 43, 44]
theorem Ug : Am ty Xf Tryz.f107 = some Uf := by kernel_rfl
def iN : C :=
(cOp t6 (AC g1)
(cOp t7 (AC (kV (.int .i64 0)))
(cOp t14 (As Int.sub .i64 g2 g1)
(cOp t8 (AC g14)
(cOp t16 (As Int.sub .i64 g8 (kV (.int .i64 1)))
(cOp t17 (Ch .i64 g16 (kV (.int .i64 2)))
(cOp t9 (AC g17)
(Al (AK 0 (Aj (cOp t19 (AM iGe .i64 g9 (kV (.int .i64 0)))
(AJ g19
(Al (AK 1 (cOp t26 (AL 117 [g0, g9, g8, g6])
AO))
(cOp t21 (As Int.sub .i64 g9 (kV (.int .i64 1)))
(cOp t9 (AC g21)
AO)))
(At 0)))))
(cOp t28 (As Int.sub .i64 g8 (kV (.int .i64 1)))
(cOp t10 (AC g28)
(AK 2 (Aj (cOp t30 (AM iGe .i64 g10 (kV (.int .i64 0)))
(AJ g30
(Al (AK 3 (Ar (cOp t38 (Ai .i64 (AQ .i64) g6 g10)
(cOp t42 (Ai .i64 (AQ .i64) g6 g10)
(cOp t43 (AY 1 g0 g42)
(cOp t44 (AG g43)
(cOp t47 (AY 1 g0 g6)
(cOp t48 (AG g47)
(cOp t49 (AY 1 g0 g6)
(cDo (AS .free (AP 1 g49 g44))
(cOp t50 (AY 1 g0 g38)
(cDo (AS .free (AP 1 g50 g48))
(cOp t55 (AL 117 [g0, g7, g10, g6])
AO)))))))))))))
(cOp t32 (As Int.sub .i64 g10 (kV (.int .i64 1)))
(cOp t10 (AC g32)
AO)))
(At 2)))))))))))))))
def Uh : Body := ⟨[], iN⟩
def Xg : List Nat := [11, 12, 13, 15, 18, 20, 22, 23, 24, 25, 27, 29, 31, 33, 34, 35, 36, 37, 39, 40, 41, 45, 46, 51, 52, 53, 54]
theorem Ui : Am ty Xg Tryz.f108 = some Uh := by kernel_rfl
def iO : C :=
(cOp t13 (As Int.sub .i64 g2 g1)
(cOp t6 (AC g13)
(cOp t15 (AM iGe .i64 g6 (kV (.int .i64 8)))
(AJ g15
(cOp t17 (An .u64 g6)
(cOp t7 (A9 1 X9)
(cDo (AP 1 g7 g17)
(cOp t19 (AL 103 [g6])
(cOp t8 (AC g19)
(cOp t22 (Ch .i64 g6 (kV (.int .i64 4)))
(cOp t23 (As Int.mul .i64 g22 (kV (.int .i64 2)))
(cOp t24 (Ai .i64 (AQ .i64) g1 g23)
(cOp t25 (As Int.sub .i64 g24 (kV (.int .i64 1)))
(cOp t9 (AC g25)
(AK 0 (Aj (cOp t29 (Ch .i64 g6 (kV (.int .i64 4)))
(cOp t30 (As Int.mul .i64 g29 (kV (.int .i64 2)))
(cOp t31 (Ai .i64 (AQ .i64) g1 g30)
(cOp t32 (Ai .i64 (AQ .i64) g31 (kV (.int .i64 1)))
(cOp t33 (AM iLe .i64 g9 g32)
(AJ g33
(Al (AK 1 (cOp t36 (AL 104 [g7])
(cOp t38 (As Int.sub .u64 g8 (kV (.int .u64 1)))
(cOp t39 (DP Nat.land .u64 g36 g38)
(cOp t40 (An .i64 g39)
(cOp t10 (AC g40)
(cOp t43 (AM iGe .i64 g10 g6)
(Al (AJ g43
(cOp t46 (As Int.sub .i64 g10 g6)
(cOp t10 (AC g46)
AO))
AO)
(Ar (cOp t52 (Ai .i64 (AQ .i64) g1 g10)
(cOp t56 (Ai .i64 (AQ .i64) g1 g10)
(cOp t57 (AY 1 g0 g56)
(cOp t58 (AG g57)
(cOp t61 (AY 1 g0 g9)
(cOp t62 (AG g61)
(cOp t63 (AY 1 g0 g9)
(cDo (AS .free (AP 1 g63 g58))
(cOp t64 (AY 1 g0 g52)
(cDo (AS .free (AP 1 g64 g62))
AO)))))))))))))))))))
(cOp t35 (Ai .i64 (AQ .i64) g9 (kV (.int .i64 1)))
(cOp t9 (AC g35)
AO)))
(At 0)))))))))))))))))))
AO))))
def Uj : Body := ⟨[], iO⟩
def Xh : List Nat := [11, 12, 14, 16, 18, 20, 21, 26, 27, 28, 34, 37, 41, 42, 44, 45, 47, 48, 49, 50, 51, 53, 54, 55, 59, 60]
theorem Uk : Am ty Xh Tryz.f109 = some Uj := by kernel_rfl
def iP : C :=
(cOp t6 (AC (kV (.int .i64 0)))
(cOp t7 (AC (kV (.int .i64 0)))
(cOp t15 (As Int.sub .i64 g2 g1)
(cOp t8 (AC g15)
(cOp t9 (A9 1 zt3)
(cOp t18 (Ch .i64 g8 (kV (.int .i64 4)))
(cOp t19 (As Int.mul .i64 g18 (kV (.int .i64 1)))
(cOp t20 (Ai .i64 (AQ .i64) g1 g19)
(cOp t10 (AC g20)
(cOp t23 (Ch .i64 g8 (kV (.int .i64 4)))
(cOp t24 (As Int.mul .i64 g23 (kV (.int .i64 2)))
(cOp t25 (Ai .i64 (AQ .i64) g1 g24)
(cOp t11 (AC g25)
(cOp t28 (Ch .i64 g8 (kV (.int .i64 4)))
(cOp t29 (As Int.mul .i64 g28 (kV (.int .i64 3)))
(cOp t30 (Ai .i64 (AQ .i64) g1 g29)
(cOp t12 (AC g30)
(cOp t32 (AM iGe .i64 g8 (kV (.int .i64 8)))
(Al (AJ g32
(cOp t34 (AM iGe .i64 g8 (kV (.int .i64 50)))
(Al (AJ g34
(cOp t37 (AL 118 [g0, g10, g9])
(cOp t10 (AC g37)
(cOp t40 (AL 118 [g0, g11, g9])
(cOp t11 (AC g40)
(cOp t43 (AL 118 [g0, g12, g9])
(cOp t12 (AC g43)
AO))))))
AO)
(cOp t48 (AL 119 [g0, g10, g11, g12, g9])
(cOp t11 (AC g48)
AO))))
AO)
(cOp t49 (AG g9)
(AK 0 (cOp t52 (AM iEq .i64 g49 (kV (.int .i64 0)))
(cOp t51 (AC g52)
(AJ g51
(cOp t6 (AC g11)
(cOp t7 (AC (kV (.int .i64 1)))
AU))
(cOp t55 (AM iEq .i64 g49 (kV (.int .i64 12)))
(cOp t54 (AC g55)
(AJ g54
(cOp t6 (AC g11)
(cOp t7 (AC (kV (.int .i64 2)))
AU))
(cOp t6 (AC g11)
(cOp t7 (AC (kV (.int .i64 0)))
AU)))))))))))))))))))))))))))))
def Um : Body := ⟨[.t g6, .t g7], iP⟩
def Xi : List Nat := [13, 14, 16, 17, 21, 22, 26, 27, 31, 33, 35, 36, 38, 39, 41, 42, 44, 45, 46, 47, 50, 53, 56]
theorem Un : Am ty Xi Tryz.f110 = some Um := by kernel_rfl
def iQ : C :=
(cOp t6 (AC g1)
(cOp t10 (As Int.sub .i64 g2 (kV (.int .i64 1)))
(cOp t7 (AC g10)
(AK 0 (Aj (cOp t13 (AM iLt .i64 g6 g7)
(AJ g13
(AK 1 (Ar (cOp t20 (AY 1 g0 g7)
(cOp t21 (AG g20)
(cOp t24 (AY 1 g0 g6)
(cOp t25 (AG g24)
(cOp t26 (AY 1 g0 g6)
(cDo (AS .free (AP 1 g26 g21))
(cOp t27 (AY 1 g0 g7)
(cDo (AS .free (AP 1 g27 g25))
(cOp t29 (Ai .i64 (AQ .i64) g6 (kV (.int .i64 1)))
(cOp t6 (AC g29)
(cOp t31 (As Int.sub .i64 g7 (kV (.int .i64 1)))
(cOp t7 (AC g31)
AO))))))))))))))
(At 0))))))))
def Uo : Body := ⟨[], iQ⟩
def Xj : List Nat := [8, 9, 11, 12, 14, 15, 16, 17, 18, 19, 22, 23, 28, 30]
theorem Up : Am ty Xj Tryz.f111 = some Uo := by kernel_rfl
def iR : C :=
(cOp t6 (AC (kV (.bool false)))
(cOp t12 (Ai .i64 (AQ .i64) g1 (kV (.int .i64 1)))
(cOp t7 (AC g12)
(cOp t8 (AC (kV (.int .i64 0)))
(Al (AK 0 (Aj (cOp t14 (AM iLt .i64 g8 (kV (.int .i64 5)))
(AJ g14
(Al (AK 1 (Al (AK 2 (Aj (Ar (cOp t19 (AM iLt .i64 g7 g2)
(cG g19 true t21 (AC g0)
(cG g19 true t22 (AC g7)
(cG g19 true t23 (AY 1 g21 g22)
(cG g19 true t24 (AG g23)
(cG g19 true t25 (AC g0)
(cG g19 true t26 (AC g7)
(cG g19 true t27 (As Int.sub .i64 g26 (kV (.int .i64 1)))
(cG g19 true t28 (AY 1 g25 g27)
(cG g19 true t29 (AG g28)
(cG g19 true t30 (AS .free (AL 113 [g24, g29]))
(cG g19 true t31 (Bo g30)
(cOp t32 (AW g19 g31 (kV (.bool false)))
(AJ g32
(AK 3 (cOp t34 (Ai .i64 (AQ .i64) g7 (kV (.int .i64 1)))
(cOp t7 (AC g34)
AO)))
(At 2))))))))))))))))))
(cOp t37 (AM iEq .i64 g7 g2)
(AJ g37
(cOp t6 (AC (kV (.bool true)))
AU)
(cOp t40 (As Int.sub .i64 g2 g1)
(cOp t41 (AM iLt .i64 g40 (kV (.int .i64 50)))
(AJ g41
(cOp t6 (AC (kV (.bool false)))
AU)
(Ar (cOp t46 (As Int.sub .i64 g7 (kV (.int .i64 1)))
(cOp t49 (As Int.sub .i64 g7 (kV (.int .i64 1)))
(cOp t50 (AY 1 g0 g49)
(cOp t51 (AG g50)
(cOp t54 (AY 1 g0 g7)
(cOp t55 (AG g54)
(cOp t56 (AY 1 g0 g7)
(cDo (AS .free (AP 1 g56 g51))
(cOp t57 (AY 1 g0 g46)
(cDo (AS .free (AP 1 g57 g55))
(cOp t60 (As Int.sub .i64 g7 g1)
(cOp t61 (AM iGe .i64 g60 (kV (.int .i64 2)))
(Al (AJ g61
(cOp t63 (As Int.sub .i64 g7 (kV (.int .i64 1)))
(cOp t9 (AC g63)
(AK 4 (Aj (cOp t65 (AM iGe .i64 g9 (kV (.int .i64 1)))
(AJ g65
(Al (AK 5 (Ar (cOp t70 (AY 1 g0 g9)
(cOp t71 (AG g70)
(cOp t74 (As Int.sub .i64 g9 (kV (.int .i64 1)))
(cOp t75 (AY 1 g0 g74)
(cOp t76 (AG g75)
(cOp t77 (AS .free (AL 113 [g71, g76]))
(cOp t78 (Bo g77)
(AJ g78
(At 4)
(Ar (cOp t83 (As Int.sub .i64 g9 (kV (.int .i64 1)))
(cOp t86 (As Int.sub .i64 g9 (kV (.int .i64 1)))
(cOp t87 (AY 1 g0 g86)
(cOp t88 (AG g87)
(cOp t91 (AY 1 g0 g9)
(cOp t92 (AG g91)
(cOp t93 (AY 1 g0 g9)
(cDo (AS .free (AP 1 g93 g88))
(cOp t94 (AY 1 g0 g83)
(cDo (AS .free (AP 1 g94 g92))
AO)))))))))))))))))))))
(cOp t67 (As Int.sub .i64 g9 (kV (.int .i64 1)))
(cOp t9 (AC g67)
AO)))
(At 4)))))))
AO)
(cOp t97 (As Int.sub .i64 g2 g7)
(cOp t98 (AM iGe .i64 g97 (kV (.int .i64 2)))
(AJ g98
(cOp NP (Ai .i64 (AQ .i64) g7 (kV (.int .i64 1)))
(cOp t10 (AC L8)
(AK 6 (Aj (cOp LX (AM iLt .i64 g10 g2)
(AJ Jr
(Al (AK 7 (Ar (cOp Og (AY 1 g0 g10)
(cOp Oh (AG N2)
(cOp NS (As Int.sub .i64 g10 (kV (.int .i64 1)))
(cOp NT (AY 1 g0 MA)
(cOp NU (AG MB)
(cOp Tl (AS .free (AL 113 [N3, GU]))
(cOp LZ (Bo SG)
(AJ Gy
(At 6)
(Ar (cOp Oj (As Int.sub .i64 g10 (kV (.int .i64 1)))
(cOp Q6 (As Int.sub .i64 g10 (kV (.int .i64 1)))
(cOp La (AY 1 g0 QE)
(cOp NX (AG Eg)
(cOp NY (AY 1 g0 g10)
(cOp Q9 (AG MF)
(cOp Tm (AY 1 g0 g10)
(cDo (AS .free (AP 1 SH ME))
(cOp Om (AY 1 g0 K7)
(cDo (AS .free (AP 1 QI QH))
AO)))))))))))))))))))))
(cOp Q3 (Ai .i64 (AQ .i64) g10 (kV (.int .i64 1)))
(cOp t10 (AC QC)
AO)))
(At 6)))))))
AO))))))))))))))))))))))))
(cOp t16 (Ai .i64 (AQ .i64) g8 (kV (.int .i64 1)))
(cOp t8 (AC g16)
AO)))
(At 0)))))
(cOp t6 (AC (kV (.bool false)))
AU))))))
def Uq : Body := ⟨[.t g6], iR⟩
def Xk : List Nat := [11, 13, 15, 17, 18, 20, 33, 35, 36, 38, 39, 42, 43, 44, 45, 47, 48, 52, 53, 58, 59, 62, 64, 66, 68, 69, 72, 73, 79, 80, 81, 82, 84, 85, 89, 90, 95, 96, 99, 101, 102, 104, 106, 107, 110, 111, 117, 118, 119, 120, 122, 123, 127, 128]
theorem Ur : Am ty Xk Tryz.f112 = some Uq := by kernel_rfl
def iS : C :=
(cOp t4 (AC (kV (.bool false)))
(cOp t6 (AL 98 [g0])
(cG g6 true t8 (AC g1)
(cG g6 true t9 (AL 98 [g8])
(cG g6 true t10 (Bo g9)
(cOp t11 (AW g6 g10 (kV (.bool false)))
(cG g11 false t13 (AC g0)
(cG g11 false t14 (AC g1)
(cG g11 false t15 (AM iLt .i64 g13 g14)
(cOp t16 (AW g11 (kV (.bool true)) g15)
(cOp t4 (AC g16)
AU)))))))))))
def Us : Body := ⟨[.t g4], iS⟩
def Xl : List Nat := [5, 7, 12]
theorem Ut : Am ty Xl Tryz.f113 = some Us := by kernel_rfl
def iT : C :=
(cOp t8 (AC (kV (.int .i64 0)))
(Ar (cOp t17 (AY 1 g0 g3)
(cOp t18 (AG g17)
(cOp t21 (AY 1 g0 g1)
(cOp t22 (AG g21)
(cOp t23 (AY 1 g0 g1)
(cDo (AS .free (AP 1 g23 g18))
(cOp t24 (AY 1 g0 g3)
(cDo (AS .free (AP 1 g24 g22))
(cOp t26 (Ai .i64 (AQ .i64) g1 (kV (.int .i64 1)))
(cOp t28 (As Int.sub .i64 g2 (kV (.int .i64 1)))
(cOp t9 (AC g26)
(cOp t10 (AC g28)
(Al (AK 0 (Aj (AK 1 (Al (AK 2 (Aj (Ar (cOp t31 (AM iLe .i64 g9 g10)
(cG g31 true t33 (AC g0)
(cG g31 true t34 (AC g1)
(cG g31 true t35 (AY 1 g33 g34)
(cG g31 true t36 (AG g35)
(cG g31 true t37 (AC g0)
(cG g31 true t38 (AC g9)
(cG g31 true t39 (AY 1 g37 g38)
(cG g31 true t40 (AG g39)
(cG g31 true t41 (AS .free (AL 113 [g36, g40]))
(cG g31 true t42 (Bo g41)
(cOp t43 (AW g31 g42 (kV (.bool false)))
(AJ g43
(AK 3 (cOp t45 (Ai .i64 (AQ .i64) g9 (kV (.int .i64 1)))
(cOp t9 (AC g45)
AO)))
(At 2)))))))))))))))))
(Al (AK 4 (Aj (Ar (cOp t48 (AM iLe .i64 g9 g10)
(cG g48 true t50 (AC g0)
(cG g48 true t51 (AC g1)
(cG g48 true t52 (AY 1 g50 g51)
(cG g48 true t53 (AG g52)
(cG g48 true t54 (AC g0)
(cG g48 true t55 (AC g10)
(cG g48 true t56 (AY 1 g54 g55)
(cG g48 true t57 (AG g56)
(cG g48 true t58 (AS .free (AL 113 [g53, g57]))
(cOp t59 (AW g48 g58 (kV (.bool false)))
(AJ g59
(AK 5 (cOp t61 (As Int.sub .i64 g10 (kV (.int .i64 1)))
(cOp t10 (AC g61)
AO)))
(At 4))))))))))))))))
(cOp t64 (AM iGt .i64 g9 g10)
(AJ g64
(At 0)
(Ar (cOp t71 (AY 1 g0 g10)
(cOp t72 (AG g71)
(cOp t75 (AY 1 g0 g9)
(cOp t76 (AG g75)
(cOp t77 (AY 1 g0 g9)
(cDo (AS .free (AP 1 g77 g72))
(cOp t78 (AY 1 g0 g10)
(cDo (AS .free (AP 1 g78 g76))
(cOp t80 (Ai .i64 (AQ .i64) g9 (kV (.int .i64 1)))
(cOp t9 (AC g80)
(cOp t82 (As Int.sub .i64 g10 (kV (.int .i64 1)))
(cOp t10 (AC g82)
AO))))))))))))))))))))
(cOp t8 (AC g9)
AU))))))))))))))))
def Uu : Body := ⟨[.t g8], iT⟩
def Xm : List Nat := [11, 12, 13, 14, 15, 16, 19, 20, 25, 27, 29, 30, 32, 44, 46, 47, 49, 60, 62, 63, 65, 66, 67, 68, 69, 70, 73, 74, 79, 81, 83]
theorem Uv : Am ty Xm Tryz.f114 = some Uu := by kernel_rfl
def iU : C :=
(cOp t8 (AC (kV (.int .i64 0)))
(cOp t9 (AC (kV (.bool false)))
(Ar (cOp t18 (AY 1 g0 g3)
(cOp t19 (AG g18)
(cOp t22 (AY 1 g0 g1)
(cOp t23 (AG g22)
(cOp t24 (AY 1 g0 g1)
(cDo (AS .free (AP 1 g24 g19))
(cOp t25 (AY 1 g0 g3)
(cDo (AS .free (AP 1 g25 g23))
(cOp t27 (Ai .i64 (AQ .i64) g1 (kV (.int .i64 1)))
(cOp t29 (As Int.sub .i64 g2 (kV (.int .i64 1)))
(cOp t10 (AC g27)
(cOp t11 (AC g29)
(Al (AK 0 (Aj (Ar (cOp t32 (AM iLe .i64 g10 g11)
(cG g32 true t34 (AC g0)
(cG g32 true t35 (AC g10)
(cG g32 true t36 (AY 1 g34 g35)
(cG g32 true t37 (AG g36)
(cG g32 true t38 (AC g0)
(cG g32 true t39 (AC g1)
(cG g32 true t40 (AY 1 g38 g39)
(cG g32 true t41 (AG g40)
(cG g32 true t42 (AS .free (AL 113 [g37, g41]))
(cOp t43 (AW g32 g42 (kV (.bool false)))
(AJ g43
(AK 1 (cOp t45 (Ai .i64 (AQ .i64) g10 (kV (.int .i64 1)))
(cOp t10 (AC g45)
AO)))
(At 0))))))))))))))))
(Al (AK 2 (Aj (Ar (cOp t48 (AM iLe .i64 g10 g11)
(cG g48 true t50 (AC g0)
(cG g48 true t51 (AC g11)
(cG g48 true t52 (AY 1 g50 g51)
(cG g48 true t53 (AG g52)
(cG g48 true t54 (AC g0)
(cG g48 true t55 (AC g1)
(cG g48 true t56 (AY 1 g54 g55)
(cG g48 true t57 (AG g56)
(cG g48 true t58 (AS .free (AL 113 [g53, g57]))
(cG g48 true t59 (Bo g58)
(cOp t60 (AW g48 g59 (kV (.bool false)))
(AJ g60
(AK 3 (cOp t62 (As Int.sub .i64 g11 (kV (.int .i64 1)))
(cOp t11 (AC g62)
AO)))
(At 2)))))))))))))))))
(cOp t65 (AM iGt .i64 g10 g11)
(AJ g65
(Ar (cOp t72 (AY 1 g0 g1)
(cOp t73 (AG g72)
(cOp t76 (AY 1 g0 g11)
(cOp t77 (AG g76)
(cOp t78 (AY 1 g0 g11)
(cDo (AS .free (AP 1 g78 g73))
(cOp t79 (AY 1 g0 g1)
(cDo (AS .free (AP 1 g79 g77))
(cOp t8 (AC g11)
(cOp t9 (AC (kV (.bool true)))
AU)))))))))))
(Ar (cOp t87 (AY 1 g0 g11)
(cOp t88 (AG g87)
(cOp t91 (AY 1 g0 g10)
(cOp t92 (AG g91)
(cOp t93 (AY 1 g0 g10)
(cDo (AS .free (AP 1 g93 g88))
(cOp t94 (AY 1 g0 g11)
(cDo (AS .free (AP 1 g94 g92))
(cOp t96 (Ai .i64 (AQ .i64) g10 (kV (.int .i64 1)))
(cOp t10 (AC g96)
(cOp t98 (As Int.sub .i64 g11 (kV (.int .i64 1)))
(cOp t11 (AC g98)
(Al (AK 4 (Aj (AK 5 (Al (AK 6 (Aj (Ar (cOp Q1 (AM iLe .i64 g10 g11)
(cG GT true LX (AC g0)
(cG GT true LY (AC g10)
(cG GT true Q3 (AY 1 Jr K5)
(cG GT true Of (AG QC)
(cG GT true Q4 (AC g0)
(cG GT true Og (AC g1)
(cG GT true Oh (AY 1 EJ N2)
(cG GT true NQ (AG N3)
(cG GT true NR (AS .free (AL 113 [N1, L9]))
(cOp NS (AW GT K6 (kV (.bool false)))
(AJ MA
(AK 7 (cOp NU (Ai .i64 (AQ .i64) g10 (kV (.int .i64 1)))
(cOp t10 (AC GU)
AO)))
(At 6))))))))))))))))
(Al (AK 8 (Aj (Ar (cOp Oi (AM iLe .i64 g10 g11)
(cG Ff true NV (AC g0)
(cG Ff true NW (AC g11)
(cG Ff true Oj (AY 1 MC MD)
(cG Ff true Ok (AG K7)
(cG Ff true Ol (AC g0)
(cG Ff true Q6 (AC g1)
(cG Ff true La (AY 1 IG QE)
(cG Ff true NX (AG Eg)
(cG Ff true Q7 (AS .free (AL 113 [N4, ME]))
(cG Ff true Q8 (Bo QF)
(cOp NY (AW Ff QG (kV (.bool false)))
(AJ MF
(AK 9 (cOp Tm (As Int.sub .i64 g11 (kV (.int .i64 1)))
(cOp t11 (AC SH)
AO)))
(At 8)))))))))))))))))
(cOp On (AM iGt .i64 g10 g11)
(AJ QJ
(At 4)
(Ar (cOp XJ (AY 1 g0 g11)
(cOp bL (AG Vi)
(cOp fR (AY 1 g0 g10)
(cOp bM (AG eA)
(cOp fS (AY 1 g0 g10)
(cDo (AS .free (AP 1 eC aL))
(cOp fT (AY 1 g0 g11)
(cDo (AS .free (AP 1 eD eB))
(cOp fU (Ai .i64 (AQ .i64) g10 (kV (.int .i64 1)))
(cOp t10 (AC eE)
(cOp bN (As Int.sub .i64 g11 (kV (.int .i64 1)))
(cOp t11 (AC aM)
AO))))))))))))))))))))
(Ar (cOp fa (AY 1 g0 g1)
(cOp bO (AG eK)
(cOp fc (AY 1 g0 g11)
(cOp fd (AG eM)
(cOp ff (AY 1 g0 g11)
(cDo (AS .free (AP 1 eO aN))
(cOp fg (AY 1 g0 g1)
(cDo (AS .free (AP 1 eP eN))
(cOp t8 (AC g11)
(cOp t9 (AC (kV (.bool false)))
AU))))))))))))))))))))))))))))))))))))))))))))
def Uw : Body := ⟨[.t g8, .t g9], iU⟩
def Xn : List Nat := [12, 13, 14, 15, 16, 17, 20, 21, 26, 28, 30, 31, 33, 44, 46, 47, 49, 61, 63, 64, 66, 67, 68, 69, 70, 71, 74, 75, 80, 81, 82, 83, 84, 85, 86, 89, 90, 95, 97, 99, 100, 102, 113, 115, 116, 118, 130, 132, 133, 135, 136, 137, 138, 139, 140, 143, 144, 149, 151, 153, 154, 155, 156, 157, 158, 161, 162, 167]
theorem Ux : Am ty Xn Tryz.f115 = some Uw := by kernel_rfl
def iV : C :=
(cOp t10 (AC (kV (.int .i64 0)))
(cOp t11 (AC (kV (.int .i64 0)))
(Ar (cOp t15 (AY 6 g0 g2)
(cOp t16 (Ac 6 g15)
(cOp t19 (AY 6 g0 g1)
(cOp t20 (Ac 6 g19)
(cOp t21 (AS .free (B8 g4 [g16, g20]))
(cOp t22 (AM iLt .i64 g21 (kV (.int .i64 0)))
(AJ g22
(cOp t24 (BF g3)
(cOp t25 (AG g24)
(cOp t26 (Ai .i64 (AQ .i64) g25 (kV (.int .i64 1)))
(cOp t27 (BF g3)
(cDo (AP 1 g27 g26)
(cOp t10 (AC g2)
(cOp t11 (AC g1)
AU)))))))
(cOp t10 (AC g1)
(cOp t11 (AC g2)
AU))))))))))))
def Uy : Body := ⟨[.t g10, .t g11], iV⟩
def Xo : List Nat := [12, 13, 14, 17, 18, 23, 28, 29, 30, 31]
theorem Uz : Am ty Xo Tryz.f116 = some Uy := by kernel_rfl
def iW : C :=
(cOp t8 (AC g1)
(AK 0 (Aj (AK 1 (cOp t12 (As Int.mul .i64 (kV (.int .i64 2)) g8)
(cOp t13 (Ai .i64 (AQ .i64) g12 (kV (.int .i64 1)))
(cOp t9 (AC g13)
(cOp t16 (AM iGe .i64 g9 g2)
(AJ g16
(At 0)
(Ar (cOp t18 (Ai .i64 (AQ .i64) g9 (kV (.int .i64 1)))
(cOp t20 (AM iLt .i64 g18 g2)
(cG g20 true t22 (AC g0)
(cG g20 true t23 (AC g3)
(cG g20 true t24 (AC g9)
(cG g20 true t25 (Ai .i64 (AQ .i64) g23 g24)
(cG g20 true t26 (AY 1 g22 g25)
(cG g20 true t27 (AG g26)
(cG g20 true t28 (AC g0)
(cG g20 true t29 (AC g3)
(cG g20 true t30 (AC g9)
(cG g20 true t31 (Ai .i64 (AQ .i64) g29 g30)
(cG g20 true t32 (Ai .i64 (AQ .i64) g31 (kV (.int .i64 1)))
(cG g20 true t33 (AY 1 g28 g32)
(cG g20 true t34 (AG g33)
(cG g20 true t35 (AS .free (AL 113 [g27, g34]))
(cOp t36 (AW g20 g35 (kV (.bool false)))
(Al (AJ g36
(cOp t38 (Ai .i64 (AQ .i64) g9 (kV (.int .i64 1)))
(cOp t9 (AC g38)
AO))
AO)
(Ar (cOp t42 (Ai .i64 (AQ .i64) g3 g8)
(cOp t43 (AY 1 g0 g42)
(cOp t44 (AG g43)
(cOp t48 (Ai .i64 (AQ .i64) g3 g9)
(cOp t49 (AY 1 g0 g48)
(cOp t50 (AG g49)
(cOp t51 (AS .free (AL 113 [g44, g50]))
(cOp t52 (Bo g51)
(AJ g52
AU
(Ar (cOp t56 (Ai .i64 (AQ .i64) g3 g8)
(cOp t60 (Ai .i64 (AQ .i64) g3 g9)
(cOp t64 (Ai .i64 (AQ .i64) g3 g9)
(cOp t65 (AY 1 g0 g64)
(cOp t66 (AG g65)
(cOp t70 (Ai .i64 (AQ .i64) g3 g8)
(cOp t71 (AY 1 g0 g70)
(cOp t72 (AG g71)
(cOp t73 (AY 1 g0 g56)
(cDo (AS .free (AP 1 g73 g66))
(cOp t74 (AY 1 g0 g60)
(cDo (AS .free (AP 1 g74 g72))
(cOp t8 (AC g9)
AO))))))))))))))))))))))))))))))))))))))))))))))))))))
def U0 : Body := ⟨[], iW⟩
def Xp : List Nat := [10, 11, 14, 15, 17, 19, 21, 37, 39, 40, 41, 45, 46, 47, 53, 54, 55, 57, 58, 59, 61, 62, 63, 67, 68, 69, 75]
theorem U3 : Am ty Xp Tryz.f117 = some U0 := by kernel_rfl
def iX : C :=
(cOp t6 (AC (kV (.int .i64 0)))
(cOp t9 (As Int.sub .i64 g1 (kV (.int .i64 1)))
(cOp t12 (Ai .i64 (AQ .i64) g1 (kV (.int .i64 1)))
(cOp t14 (AL 119 [g0, g9, g1, g12, g2])
(cOp t6 (AC g14)
AU)))))
def U4 : Body := ⟨[.t g6], iX⟩
def Xq : List Nat := [7, 8, 10, 11, 13]
theorem U5 : Am ty Xq Tryz.f118 = some U4 := by kernel_rfl
def iY : C :=
(cOp t10 (AC (kV (.int .i64 0)))
(cOp t16 (AL 120 [g0, g1, g2, g4])
(cOp t17 (AN 0 g16)
(cOp t18 (AN 1 g16)
(cOp t1 (AC g17)
(cOp t2 (AC g18)
(cOp t24 (AL 120 [g0, g2, g3, g4])
(cOp t25 (AN 0 g24)
(cOp t26 (AN 1 g24)
(cOp t2 (AC g25)
(cOp t3 (AC g26)
(cOp t32 (AL 120 [g0, g1, g2, g4])
(cOp t33 (AN 0 g32)
(cOp t34 (AN 1 g32)
(cOp t1 (AC g33)
(cOp t2 (AC g34)
(cOp t10 (AC g2)
AU)))))))))))))))))
def U6 : Body := ⟨[.t g10], iY⟩
def Xr : List Nat := [11, 12, 13, 14, 15, 19, 20, 21, 22, 23, 27, 28, 29, 30, 31, 35]
theorem U7 : Am ty Xr Tryz.f119 = some U6 := by kernel_rfl
def iZ : C :=
(cOp t8 (AC (kV (.int .i64 0)))
(cOp t9 (AC (kV (.int .i64 0)))
(Ar (cOp t12 (AY 1 g0 g2)
(cOp t13 (AG g12)
(cOp t16 (AY 1 g0 g1)
(cOp t17 (AG g16)
(cOp t18 (AS .free (AL 113 [g13, g17]))
(AJ g18
(cOp t20 (BF g3)
(cOp t21 (AG g20)
(cOp t22 (Ai .i64 (AQ .i64) g21 (kV (.int .i64 1)))
(cOp t23 (BF g3)
(cDo (AP 1 g23 g22)
(cOp t8 (AC g2)
(cOp t9 (AC g1)
AU)))))))
(cOp t8 (AC g1)
(cOp t9 (AC g2)
AU)))))))))))
def U8 : Body := ⟨[.t g8, .t g9], iZ⟩
def Xs : List Nat := [10, 11, 14, 15, 19, 24, 25, 26, 27]
theorem U9 : Am ty Xs Tryz.f120 = some U8 := by kernel_rfl
end
end Go.Proofs.YtfeldadhbnmklaaGreat
